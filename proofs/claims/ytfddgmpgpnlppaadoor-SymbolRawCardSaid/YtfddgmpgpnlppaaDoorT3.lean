/- The given statement SymbolRawCardSaid is proved, by a verified abstract run of the model's code and contracts of its functions. Part 3 of 4. -/
import Derived.Test.YtfddgmpgpnlppaaDoorT2
import Derived.ChangeAt
import Derived.OpenShut
set_option linter.unusedVariables false
set_option linter.unusedSimpArgs false
/- Intern, by both sides. PRINTED by gen9.py. -/
set_option maxRecDepth 100000
namespace Go.Proofs.YtfddgmpgpnlppaaDoor.Tab
open Go Go.RowKit Go.Proofs.Ab

def k12 : KCall := tspec 12 (GoA.bnd (A := List Pk × Str × Unit)) fFind
def k19 : KCall := tspec 19 (GoA.bnd (A := List Pk × Str × Unit)) fFind
theorem bnd_small {T : Type} [GoT T] [Inhabited T] {l : List T} (h : GoT.bnd l = true) : small l = true := by
  have h : (Nat.blt l.length 9223372036854775808 && l.all GoT.bnd) = true := h
  simp only [Bool.and_eq_true] at h
  exact Nat.ble_eq_true_of_le (by have := blt_lt' h.1; omega)
theorem bnd_all {T : Type} [GoT T] [Inhabited T] {l : List T} (h : GoT.bnd l = true) : l.all GoT.bnd = true := by
  have h : (Nat.blt l.length 9223372036854775808 && l.all GoT.bnd) = true := h
  simp only [Bool.and_eq_true] at h
  exact h.2
theorem c12_ok' : CallOk Tryd.prog (toA k12) := tspec_weak (fun a h => by
  simp only [GoA.bnd, Bool.and_eq_true] at h
  exact bnd_small h.1) c12_ok
theorem c19_ok' : CallOk Tryd.prog (toA k19) := tspec_weak (fun a h => by
  simp only [GoA.bnd, Bool.and_eq_true] at h
  exact bnd_small h.1) c19_ok
theorem find_bnd {l : List Pk} (h : GoT.bnd l = true) (s : Str) : GoT.bnd (fFind (l, s, ())).a = true := by
  unfold fFind findPk
  simp only
  cases l.findIdx? fun p => p.name.eq s with
  | none => rfl
  | some j => exact all_getD (bnd_all h) rfl j
theorem imp_small {l : List Pk} (h : GoT.bnd l = true) {s : Str} : small (fFind (l, s, ())).a.imp = true := by
  have h1 := find_bnd h s
  have h1 : (GoT.bnd (fFind (l, s, ())).a.name && GoT.bnd (fFind (l, s, ())).a.imp) = true := h1
  simp only [Bool.and_eq_true] at h1
  exact bnd_small h1.2
def noSy : List AV := [.p (.sc (.string ⟨#[]⟩)), .p (.sc (.string ⟨#[]⟩))]
def cellsA {T : Type} [GoT T] (t : T) : List AV := (GoT.cells t).map .p
def Hr (r : List AV) (p : Pk) : St := ⟨[r, cellsA p], []⟩
def fIntern (a : List Pk × Str × Str × Unit) : R2 Sy Int :=
  let r := fFind (a.1, a.2.1, ())
  match r.b with
  | false => ⟨default, 13⟩
  | true => match decide ((a.2.2.1.n : Int) < 1) with
    | true => ⟨default, 3⟩
    | false => match decide ((a.2.2.1.n : Int) > 40) with
      | true => ⟨default, 3⟩
      | false => match r.a.imp.findIdx? fun x => x.nm.eq a.2.2.1 with
        | some j => ⟨r.a.imp.getD j default, 0⟩
        | none => ⟨⟨a.2.1, a.2.2.1⟩, 0⟩

def T9 (s t : Str) (p : Pk) (i : Int) : Frm := [(1, .p (toPV s)), (2, .p (toPV t)), (6, .ptr 0 0), (7, N 0), (31, .p (toPV p.imp)), (32, N p.imp.length), (33, .p (.sc (.int .i64 i)))]
theorem round9 (s t : Str) (p : Pk) (fuel i : Nat) : kround Tryd.prog C pol k12 9 fuel (loopNo 0 e9.body) [1, 2, 6, 7, 31, 32, 33] 2 (T9 s t p (.ofNat i)) (Hr noSy p) =
  kB (decide (Int.ofNat i < Int.ofNat p.imp.length))
  (kB (i.blt p.imp.length)
    (kB ((p.imp.getD i default).nm.eq t)
      (some (AX.ret, T9 s t p (.ofNat i), Hr (cellsA (p.imp.getD i default)) p))
      (some (AX.normal, T9 s t p (IntKind.i64.wrap (Int.ofNat i + 1)), Hr noSy p)))
    none)
  (some (AX.exit 0, T9 s t p (.ofNat i), Hr noSy p)) := by kernel_rfl
theorem body9 (l : List Pk) (s t : Str) (fuel : Nat) : kbody Tryd.prog C pol k12 9 fuel e9 [.p (toPV l), .p (toPV s), .p (toPV t)] ⟨[],[]⟩ =
  kB (GoA.ok (List Pk × Str × Unit) [toPV l, toPV s] && GoA.bnd (GoA.dec (A := List Pk × Str × Unit) [toPV l, toPV s]))
  (kB (!(fFind (GoA.dec [toPV l, toPV s])).b)
    (some (.tu [.ag noSy, N 13], Hr noSy (fFind (GoA.dec [toPV l, toPV s])).a))
    (kB (decide ((t.n : Int) < 1))
      (some (.tu [.ag noSy, N 3], Hr noSy (fFind (GoA.dec [toPV l, toPV s])).a))
      (kB (decide ((t.n : Int) > 40))
        (some (.tu [.ag noSy, N 3], Hr noSy (fFind (GoA.dec [toPV l, toPV s])).a))
        (loopK Tryd.prog C pol k12 9 fuel e9 [1, 2, 6, 7, 31, 32, 33] 2 0 (T9 s t (fFind (GoA.dec [toPV l, toPV s])).a 0) (Hr noSy (fFind (GoA.dec [toPV l, toPV s])).a)))))
  none := by kernel_rfl
theorem end9a (s t : Str) (p : Pk) (fuel : Nat) (i : Int) : afterK Tryd.prog C pol k12 9 fuel e9 (T9 s t p i) (Hr noSy p) = some (.tu [.ag (cellsA (Sy.mk s t)), N 0], Hr (cellsA (Sy.mk s t)) p) := by kernel_rfl
theorem end9b (s t : Str) (p : Pk) (x : Sy) (i : Int) : resK Tryd.prog e9 (T9 s t p i) (Hr (cellsA x) p) = some (.tu [.ag (cellsA x), N 0], Hr (cellsA x) p) := by kernel_rfl
theorem loop9 (s t : Str) (p : Pk) (fuel : Nat) (hl : p.imp.length < 9223372036854775808) (hf : p.imp.length < fuel) :
    aloop (acode Tryd.prog C pol (toA k12) 9 fuel (loopNo 0 e9.body)) (some [1, 2, 6, 7, 31, 32, 33]) 2 fuel (T9 s t p 0) (Hr noSy p) = match p.imp.findIdx? fun x => x.nm.eq t with
      | some j => some (.ret, T9 s t p (.ofNat j), Hr (cellsA (p.imp.getD j default)) p)
      | none => some (.exit 0, T9 s t p (.ofNat p.imp.length), Hr noSy p) := by
  have := loop_for (S := Unit) (kc := k12) (P := Tryd.prog) (C := C) (pol := pol) (fid := 9) (fuel := fuel) (c := loopNo 0 e9.body) (l := [1, 2, 6, 7, 31, 32, 33]) (n := 2)
    (fun i _ => (T9 s t p (.ofNat i), Hr noSy p)) (fun i _ => bif (p.imp.getD i default).nm.eq t then .inr (none, T9 s t p (.ofNat i), Hr (cellsA (p.imp.getD i default)) p) else .inl ()) (fun _ => (some 0, T9 s t p (.ofNat p.imp.length), Hr noSy p)) p.imp.length (fun _ _ => True)
    (fun i _ hi _ => by
      simp only [round9]
      rw [decide_eq_true (by exact Int.ofNat_lt.2 hi : Int.ofNat i < Int.ofNat p.imp.length), show i.blt p.imp.length = true from Nat.ble_eq_true_of_le hi, wrap1 (by omega)]
      cases (p.imp.getD i default).nm.eq t <;> rfl)
    (fun _ _ _ _ _ _ => trivial)
    (fun _ _ => by
      simp only [round9]
      rw [decide_eq_false (by simp : ¬ Int.ofNat p.imp.length < Int.ofNat p.imp.length)]
      rfl)
    p.imp.length 0 () fuel (by omega) trivial hf
  refine Eq.trans this ?_
  rw [iter_find (fun x : Sy => x.nm.eq t) default]
  cases p.imp.findIdx? fun x => x.nm.eq t <;> rfl
theorem c9_ok : CallOk Tryd.prog (toA (tspec 9 (GoA.bnd (A := List Pk × Str × Str × Unit)) fIntern)) := by
  refine tspec_ok C_ok (pol := pol) c12_ok' (e := e9) (by kernel_rfl) fun a ha => ?_
  obtain ⟨l, s, t, ⟨⟩⟩ := a
  have hD : (GoA.dec [toPV l, toPV s] : List Pk × Str × Unit) = (l, s, ()) := GoA.rt (A := List Pk × Str × Unit) (l, s, ())
  have hk : GoA.ok (List Pk × Str × Unit) [toPV l, toPV s] = true := GoA.okc (A := List Pk × Str × Unit) (l, s, ())
  simp only [GoA.bnd, Bool.and_eq_true] at ha
  have hb : GoA.bnd (A := List Pk × Str × Unit) (l, s, ()) = true := by simp only [GoA.bnd, Bool.and_eq_true]; exact ⟨ha.1, ha.2.1, trivial⟩
  have hp : (fFind (l, s, ())).a.imp.length < 9223372036854775808 := small_lt (imp_small ha.1)
  refine ⟨(fFind (l, s, ())).a.imp.length + 1, ?_⟩
  show ∃ v0 st', abody Tryd.prog C pol (toA k12) 9 ((fFind (l, s, ())).a.imp.length + 1) e9 [.p (toPV l), .p (toPV s), .p (toPV t)] ⟨[], []⟩ = some (v0, st') ∧ _
  rw [kbody_eq, body9, hk, hD, hb]
  have hloop := loop9 s t (fFind (l, s, ())).a _ hp (Nat.lt_succ_self _)
  unfold fIntern
  simp only [loopK, hloop]
  generalize hr : fFind (l, s, ()) = r
  cases r.b with
  | false => exact ⟨_, _, rfl, R2_ok ⟨rfl, rfl⟩ ⟨rfl, rfl⟩⟩
  | true =>
    cases decide ((t.n : Int) < 1) with
    | true => exact ⟨_, _, rfl, R2_ok ⟨rfl, rfl⟩ ⟨rfl, rfl⟩⟩
    | false =>
      cases decide ((t.n : Int) > 40) with
      | true => exact ⟨_, _, rfl, R2_ok ⟨rfl, rfl⟩ ⟨rfl, rfl⟩⟩
      | false =>
        cases r.a.imp.findIdx? fun x => x.nm.eq t with
        | none => exact ⟨_, _, end9a s t r.a (r.a.imp.length + 1) _, R2_ok (ofT_ag rfl _) ⟨rfl, rfl⟩⟩
        | some j => exact ⟨_, _, end9b s t r.a _ _, R2_ok (ofT_ag rfl _) ⟨rfl, rfl⟩⟩

def T31 (s t : Str) (p : Pk) (i : Int) : Frm := [(1, .p (toPV s)), (2, .p (toPV t)), (6, .ptr 0 0), (7, N 0), (8, .ptr 1 0), (10, .p (.sc (.int .i64 i)))]
theorem round31 (s t : Str) (p : Pk) (fuel i : Nat) : kround Tryd.prog C pol k19 31 fuel (loopNo 0 e31.body) [1, 2, 6, 7, 8, 10] 2 (T31 s t p (.ofNat i)) (Hr noSy p) =
  kB (decide (Int.ofNat i < Int.ofNat p.imp.length))
  (kB (i.blt p.imp.length)
    (kB ((p.imp.getD i default).nm.eq t)
      (kB (i.blt p.imp.length) (some (AX.ret, T31 s t p (.ofNat i), Hr (cellsA (p.imp.getD i default)) p)) none)
      (some (AX.normal, T31 s t p (IntKind.i64.wrap (Int.ofNat i + 1)), Hr noSy p)))
    none)
  (some (AX.exit 0, T31 s t p (.ofNat i), Hr noSy p)) := by kernel_rfl
theorem body31 (l : List Pk) (s t : Str) (fuel : Nat) : kbody Tryd.prog C pol k19 31 fuel e31 [.p (toPV l), .p (toPV s), .p (toPV t)] ⟨[],[]⟩ =
  kB (GoA.ok (List Pk × Str × Unit) [toPV l, toPV s] && GoA.bnd (GoA.dec (A := List Pk × Str × Unit) [toPV l, toPV s]))
  (kB (!(fFind (GoA.dec [toPV l, toPV s])).b)
    (some (.tu [.ag noSy, N 13], Hr noSy (fFind (GoA.dec [toPV l, toPV s])).a))
    (kB (decide ((t.n : Int) < 1))
      (some (.tu [.ag noSy, N 3], Hr noSy (fFind (GoA.dec [toPV l, toPV s])).a))
      (kB (decide ((t.n : Int) > 40))
        (some (.tu [.ag noSy, N 3], Hr noSy (fFind (GoA.dec [toPV l, toPV s])).a))
        (loopK Tryd.prog C pol k19 31 fuel e31 [1, 2, 6, 7, 8, 10] 2 0 (T31 s t (fFind (GoA.dec [toPV l, toPV s])).a 0) (Hr noSy (fFind (GoA.dec [toPV l, toPV s])).a)))))
  none := by kernel_rfl
theorem end31a (s t : Str) (p : Pk) (fuel : Nat) (i : Int) : afterK Tryd.prog C pol k19 31 fuel e31 (T31 s t p i) (Hr noSy p) = some (.tu [.ag (cellsA (Sy.mk s t)), N 0], Hr (cellsA (Sy.mk s t)) p) := by kernel_rfl
theorem end31b (s t : Str) (p : Pk) (x : Sy) (i : Int) : resK Tryd.prog e31 (T31 s t p i) (Hr (cellsA x) p) = some (.tu [.ag (cellsA x), N 0], Hr (cellsA x) p) := by kernel_rfl
theorem loop31 (s t : Str) (p : Pk) (fuel : Nat) (hl : p.imp.length < 9223372036854775808) (hf : p.imp.length < fuel) :
    aloop (acode Tryd.prog C pol (toA k19) 31 fuel (loopNo 0 e31.body)) (some [1, 2, 6, 7, 8, 10]) 2 fuel (T31 s t p 0) (Hr noSy p) = match p.imp.findIdx? fun x => x.nm.eq t with
      | some j => some (.ret, T31 s t p (.ofNat j), Hr (cellsA (p.imp.getD j default)) p)
      | none => some (.exit 0, T31 s t p (.ofNat p.imp.length), Hr noSy p) := by
  have := loop_for (S := Unit) (kc := k19) (P := Tryd.prog) (C := C) (pol := pol) (fid := 31) (fuel := fuel) (c := loopNo 0 e31.body) (l := [1, 2, 6, 7, 8, 10]) (n := 2)
    (fun i _ => (T31 s t p (.ofNat i), Hr noSy p)) (fun i _ => bif (p.imp.getD i default).nm.eq t then .inr (none, T31 s t p (.ofNat i), Hr (cellsA (p.imp.getD i default)) p) else .inl ()) (fun _ => (some 0, T31 s t p (.ofNat p.imp.length), Hr noSy p)) p.imp.length (fun _ _ => True)
    (fun i _ hi _ => by
      simp only [round31]
      rw [decide_eq_true (by exact Int.ofNat_lt.2 hi : Int.ofNat i < Int.ofNat p.imp.length), show i.blt p.imp.length = true from Nat.ble_eq_true_of_le hi, wrap1 (by omega)]
      cases (p.imp.getD i default).nm.eq t <;> rfl)
    (fun _ _ _ _ _ _ => trivial)
    (fun _ _ => by
      simp only [round31]
      rw [decide_eq_false (by simp : ¬ Int.ofNat p.imp.length < Int.ofNat p.imp.length)]
      rfl)
    p.imp.length 0 () fuel (by omega) trivial hf
  refine Eq.trans this ?_
  rw [iter_find (fun x : Sy => x.nm.eq t) default]
  cases p.imp.findIdx? fun x => x.nm.eq t <;> rfl
theorem c31_ok : CallOk Tryd.prog (toA (tspec 31 (GoA.bnd (A := List Pk × Str × Str × Unit)) fIntern)) := by
  refine tspec_ok C_ok (pol := pol) c19_ok' (e := e31) (by kernel_rfl) fun a ha => ?_
  obtain ⟨l, s, t, ⟨⟩⟩ := a
  have hD : (GoA.dec [toPV l, toPV s] : List Pk × Str × Unit) = (l, s, ()) := GoA.rt (A := List Pk × Str × Unit) (l, s, ())
  have hk : GoA.ok (List Pk × Str × Unit) [toPV l, toPV s] = true := GoA.okc (A := List Pk × Str × Unit) (l, s, ())
  simp only [GoA.bnd, Bool.and_eq_true] at ha
  have hb : GoA.bnd (A := List Pk × Str × Unit) (l, s, ()) = true := by simp only [GoA.bnd, Bool.and_eq_true]; exact ⟨ha.1, ha.2.1, trivial⟩
  have hp : (fFind (l, s, ())).a.imp.length < 9223372036854775808 := small_lt (imp_small ha.1)
  refine ⟨(fFind (l, s, ())).a.imp.length + 1, ?_⟩
  show ∃ v0 st', abody Tryd.prog C pol (toA k19) 31 ((fFind (l, s, ())).a.imp.length + 1) e31 [.p (toPV l), .p (toPV s), .p (toPV t)] ⟨[], []⟩ = some (v0, st') ∧ _
  rw [kbody_eq, body31, hk, hD, hb]
  have hloop := loop31 s t (fFind (l, s, ())).a _ hp (Nat.lt_succ_self _)
  unfold fIntern
  simp only [loopK, hloop]
  generalize hr : fFind (l, s, ()) = r
  cases r.b with
  | false => exact ⟨_, _, rfl, R2_ok ⟨rfl, rfl⟩ ⟨rfl, rfl⟩⟩
  | true =>
    cases decide ((t.n : Int) < 1) with
    | true => exact ⟨_, _, rfl, R2_ok ⟨rfl, rfl⟩ ⟨rfl, rfl⟩⟩
    | false =>
      cases decide ((t.n : Int) > 40) with
      | true => exact ⟨_, _, rfl, R2_ok ⟨rfl, rfl⟩ ⟨rfl, rfl⟩⟩
      | false =>
        cases r.a.imp.findIdx? fun x => x.nm.eq t with
        | none => exact ⟨_, _, end31a s t r.a (r.a.imp.length + 1) _, R2_ok (ofT_ag rfl _) ⟨rfl, rfl⟩⟩
        | some j => exact ⟨_, _, end31b s t r.a _ _, R2_ok (ofT_ag rfl _) ⟨rfl, rfl⟩⟩
end Go.Proofs.YtfddgmpgpnlppaaDoor.Tab
/- Visible and Home, by both sides. -/
set_option maxRecDepth 100000
namespace Go.Proofs.YtfddgmpgpnlppaaDoor.Tab
open Go Go.RowKit Go.Proofs.Ab

def k9 : KCall := tspec 9 (GoA.bnd (A := List Pk × Str × Str × Unit)) fIntern
def k31 : KCall := tspec 31 (GoA.bnd (A := List Pk × Str × Str × Unit)) fIntern
def syEq (a b : Sy) : Bool := a.pk.eq b.pk && (a.nm.eq b.nm && true)
def fVisible (a : List Pk × Str × Sy × Unit) : Bool :=
  match (fIntern (a.1, a.2.1, a.2.2.1.nm, ())).b == 0 with
  | true => syEq (fIntern (a.1, a.2.1, a.2.2.1.nm, ())).a a.2.2.1
  | false => false
def Hv (t : Sy) (r : Sy) : St := ⟨[cellsA t, cellsA r], []⟩
theorem body22 (l : List Pk) (s : Str) (t : Sy) (fuel : Nat) : kbody Tryd.prog C pol k9 22 fuel e22 [.p (toPV l), .p (toPV s), .p (toPV t)] ⟨[],[]⟩ =
  kB (tcond (l, s, t.nm, ()))
    (kB ((fIntern (RA (l, s, t.nm, ()))).b == 0) (some (BV (syEq (fIntern (RA (l, s, t.nm, ()))).a t), Hv t (fIntern (RA (l, s, t.nm, ()))).a)) (some (BV false, Hv t (fIntern (RA (l, s, t.nm, ()))).a)))
    none := by kernel_rfl
theorem body28 (l : List Pk) (s : Str) (t : Sy) (fuel : Nat) : kbody Tryd.prog C pol k31 28 fuel e28 [.p (toPV l), .p (toPV s), .p (toPV t)] ⟨[],[]⟩ =
  kB (tcond (l, s, t.nm, ()))
    (kB ((fIntern (RA (l, s, t.nm, ()))).b == 0) (some (BV (syEq (fIntern (RA (l, s, t.nm, ()))).a t), Hv t (fIntern (RA (l, s, t.nm, ()))).a)) (some (BV false, Hv t (fIntern (RA (l, s, t.nm, ()))).a)))
    none := by kernel_rfl
theorem bnd_vis {l : List Pk} {s : Str} {t : Sy} (h : GoA.bnd (A := List Pk × Str × Sy × Unit) (l, s, t, ()) = true) : tcond (A := List Pk × Str × Str × Unit) (l, s, t.nm, ()) = true := by
  simp only [tcond_eq, bnd_arg, Bool.and_eq_true] at h ⊢
  obtain ⟨h1, h2, h3, h4⟩ := h
  have h3 : (GoT.bnd t.pk && GoT.bnd t.nm) = true := h3
  simp only [Bool.and_eq_true] at h3
  exact ⟨h1, h2, h3.2, h4⟩
theorem c22_ok : CallOk Tryd.prog (toA (tspec 22 (GoA.bnd (A := List Pk × Str × Sy × Unit)) fVisible)) := by
  refine tspec_ok C_ok (pol := pol) c9_ok (e := e22) (by kernel_rfl) fun a ha => ?_
  obtain ⟨l, s, t, ⟨⟩⟩ := a
  refine ⟨0, ?_⟩
  show ∃ v0 st', abody Tryd.prog C pol (toA k9) 22 0 e22 [.p (toPV l), .p (toPV s), .p (toPV t)] ⟨[], []⟩ = some (v0, st') ∧ _
  rw [kbody_eq, body22, bnd_vis ha, RA_eq]
  unfold fVisible
  simp only
  cases (fIntern (l, s, t.nm, ())).b == 0 with
  | true => exact ⟨_, _, rfl, rfl, rfl⟩
  | false => exact ⟨_, _, rfl, rfl, rfl⟩
theorem c28_ok : CallOk Tryd.prog (toA (tspec 28 (GoA.bnd (A := List Pk × Str × Sy × Unit)) fVisible)) := by
  refine tspec_ok C_ok (pol := pol) c31_ok (e := e28) (by kernel_rfl) fun a ha => ?_
  obtain ⟨l, s, t, ⟨⟩⟩ := a
  refine ⟨0, ?_⟩
  show ∃ v0 st', abody Tryd.prog C pol (toA k31) 28 0 e28 [.p (toPV l), .p (toPV s), .p (toPV t)] ⟨[], []⟩ = some (v0, st') ∧ _
  rw [kbody_eq, body28, bnd_vis ha, RA_eq]
  unfold fVisible
  simp only
  cases (fIntern (l, s, t.nm, ())).b == 0 with
  | true => exact ⟨_, _, rfl, rfl, rfl⟩
  | false => exact ⟨_, _, rfl, rfl, rfl⟩
def k22 : KCall := tspec 22 (GoA.bnd (A := List Pk × Str × Sy × Unit)) fVisible
def k28 : KCall := tspec 28 (GoA.bnd (A := List Pk × Str × Sy × Unit)) fVisible
def fHome (a : List Pk × Sy × Unit) : Bool := fVisible (a.1, a.2.1.pk, a.2.1, ())
theorem body10 (l : List Pk) (t : Sy) (fuel : Nat) : kbody Tryd.prog C pol k22 10 fuel e10 [.p (toPV l), .p (toPV t)] ⟨[],[]⟩ =
  kB (tcond (l, t.pk, t, ())) (some (BV (fVisible (RA (l, t.pk, t, ()))), ⟨[cellsA t], []⟩)) none := by kernel_rfl
theorem body21 (l : List Pk) (t : Sy) (fuel : Nat) : kbody Tryd.prog C pol k28 21 fuel e21 [.p (toPV l), .p (toPV t)] ⟨[],[]⟩ =
  kB (tcond (l, t.pk, t, ())) (some (BV (fVisible (RA (l, t.pk, t, ()))), ⟨[cellsA t], []⟩)) none := by kernel_rfl
theorem bnd_home {l : List Pk} {t : Sy} (h : GoA.bnd (A := List Pk × Sy × Unit) (l, t, ()) = true) : tcond (A := List Pk × Str × Sy × Unit) (l, t.pk, t, ()) = true := by
  simp only [tcond_eq, bnd_arg, Bool.and_eq_true] at h ⊢
  obtain ⟨h1, h3, h4⟩ := h
  have h5 : (GoT.bnd t.pk && GoT.bnd t.nm) = true := h3
  simp only [Bool.and_eq_true] at h5
  exact ⟨h1, h5.1, h3, h4⟩
theorem c10_ok : CallOk Tryd.prog (toA (tspec 10 (GoA.bnd (A := List Pk × Sy × Unit)) fHome)) := by
  refine tspec_ok C_ok (pol := pol) c22_ok (e := e10) (by kernel_rfl) fun a ha => ?_
  obtain ⟨l, t, ⟨⟩⟩ := a
  refine ⟨0, ?_⟩
  show ∃ v0 st', abody Tryd.prog C pol (toA k22) 10 0 e10 [.p (toPV l), .p (toPV t)] ⟨[], []⟩ = some (v0, st') ∧ _
  rw [kbody_eq, body10, bnd_home ha, RA_eq]
  exact ⟨_, _, rfl, rfl, rfl⟩
theorem c21_ok : CallOk Tryd.prog (toA (tspec 21 (GoA.bnd (A := List Pk × Sy × Unit)) fHome)) := by
  refine tspec_ok C_ok (pol := pol) c28_ok (e := e21) (by kernel_rfl) fun a ha => ?_
  obtain ⟨l, t, ⟨⟩⟩ := a
  refine ⟨0, ?_⟩
  show ∃ v0 st', abody Tryd.prog C pol (toA k28) 21 0 e21 [.p (toPV l), .p (toPV t)] ⟨[], []⟩ = some (v0, st') ∧ _
  rw [kbody_eq, body21, bnd_home ha, RA_eq]
  exact ⟨_, _, rfl, rfl, rfl⟩
end Go.Proofs.YtfddgmpgpnlppaaDoor.Tab
/- lispproverref2.Package: which names are package names. -/
set_option maxRecDepth 100000
namespace Go.Proofs.YtfddgmpgpnlppaaDoor.Tab
open Go Go.RowKit Go.Proofs.Ab

def loopOf : Code → List Code
  | .seq a b => loopOf a ++ loopOf b
  | .cond _ a b => loopOf a ++ loopOf b
  | .block _ b => loopOf b
  | .loop b => [b]
  | _ => []
def lower (b : Nat) : Bool := !(decide (Int.ofNat b < 97)) && !(decide (Int.ofNat b > 122))
def digit (b : Nat) : Bool := !(decide (Int.ofNat b < 48)) && !(decide (Int.ofNat b > 57))
def okByte (b : Nat) : Bool := lower b || digit b || !(Int.ofNat b != 45)
/-- From the i-th byte on, n bytes in all. -/
def okFrom (c : Nat) : Nat → Nat → Bool
  | i, 0 => true
  | i, k + 1 => okByte (byteAt c i) && okFrom c (i + 1) k
noncomputable def b26 : Code := (loopOf e26.body).headD .skip
def T26 (n c : Nat) (r : Bool) (i : Int) : Frm := [(0, .p (.st n c)), (2, .p (.sc (.bool r))), (3, .p (.sc (.int .i64 i)))]
theorem round26 (n c fuel i m : Nat) : kcode (β := AX × Frm × St) Tryd.prog C pol (toK noCall) 26 fuel b26 (T26 n c false (.ofNat i)) ⟨[],[]⟩ (fun T st => some (.normal, keepT 0 st.K.length T [0, 2, 3], cutSt 0 st.K.length st)) (fun i T st => some (.exit i, keepT 0 st.K.length T [0, 2, 3], cutSt 0 st.K.length st)) (fun T st => some (.ret, keepT 0 st.K.length T [0, 2, 3], cutSt 0 st.K.length st)) =
  kB (decide (Int.ofNat i < ↑n))
  (kB (i.blt n)
    (kB (decide (Int.ofNat (byteAt c i) < 97))
      (kB (decide (Int.ofNat (byteAt c i) < 48))
        (kB (Int.ofNat (byteAt c i) != 45) (some (AX.ret, T26 n c false (.ofNat i), { H := [], K := [] }))
          (some (AX.normal, T26 n c false (IntKind.i64.wrap (Int.ofNat i + 1)), { H := [], K := [] })))
        (kB (decide (Int.ofNat (byteAt c i) > 57))
          (kB (Int.ofNat (byteAt c i) != 45)
            (some (AX.ret, T26 n c false (.ofNat i), { H := [], K := [] }))
            (some (AX.normal, T26 n c false (IntKind.i64.wrap (Int.ofNat i + 1)), { H := [], K := [] })))
          (some (AX.normal, T26 n c false (IntKind.i64.wrap (Int.ofNat i + 1)), { H := [], K := [] }))))
      (kB (decide (Int.ofNat (byteAt c i) > 122))
        (kB (decide (Int.ofNat (byteAt c i) < 48))
          (kB (Int.ofNat (byteAt c i) != 45)
            (some (AX.ret, T26 n c false (.ofNat i), { H := [], K := [] }))
            (some (AX.normal, T26 n c false (IntKind.i64.wrap (Int.ofNat i + 1)), { H := [], K := [] })))
          (kB (decide (Int.ofNat (byteAt c i) > 57))
            (kB (Int.ofNat (byteAt c i) != 45)
              (some (AX.ret, T26 n c false (.ofNat i), { H := [], K := [] }))
              (some (AX.normal, T26 n c false (IntKind.i64.wrap (Int.ofNat i + 1)), { H := [], K := [] })))
            (some (AX.normal, T26 n c false (IntKind.i64.wrap (Int.ofNat i + 1)), { H := [], K := [] }))))
        (some (AX.normal, T26 n c false (IntKind.i64.wrap (Int.ofNat i + 1)), { H := [], K := [] }))))
    none)
  (some (AX.exit 0, T26 n c false (.ofNat i), { H := [], K := [] })) := by kernel_rfl
theorem kB_true {β : Type} (a b : Option β) : kB true a b = a := rfl
theorem kB_false {β : Type} (a b : Option β) : kB false a b = b := rfl
theorem wrap1 {i : Nat} (h : i + 1 < 9223372036854775808) : IntKind.i64.wrap (Int.ofNat i + 1) = Int.ofNat (i + 1) := by
  have := wrap_lim' (k := .i64) (n := i + 1) h
  exact this
theorem loop26 (n c fuel : Nat) (hn : n < 9223372036854775808) : ∀ k i, i + k = n →
    (okFrom c i k = true → aloop (acode Tryd.prog C pol (toA (toK noCall)) 26 fuel b26) (some [0, 2, 3]) 0 (k + 1) (T26 n c false (.ofNat i)) ⟨[], []⟩ = some (.exit 0, T26 n c false (.ofNat n), ⟨[], []⟩)) ∧
    (okFrom c i k = false → ∃ j, aloop (acode Tryd.prog C pol (toA (toK noCall)) 26 fuel b26) (some [0, 2, 3]) 0 (k + 1) (T26 n c false (.ofNat i)) ⟨[], []⟩ = some (.ret, T26 n c false (.ofNat j), ⟨[], []⟩))
  | 0, i, hi => by
    have hlt : decide (Int.ofNat i < (n : Int)) = false := by simp; omega
    refine ⟨fun _ => ?_, fun h => by cases h⟩
    rw [aloop_k, round26 n c fuel i 0, hlt, kB_false]
    rw [show i = n by omega]
  | k + 1, i, hi => by
    have hlt : decide (Int.ofNat i < (n : Int)) = true := by simp; omega
    have hb : i.blt n = true := Nat.ble_eq_true_of_le (by omega)
    have ih := loop26 n c fuel hn k (i + 1) (by omega)
    rw [aloop_k, round26 n c fuel i 0, hlt, kB_true, hb, kB_true, wrap1 (by omega)]
    simp only [okFrom, okByte, lower, digit]
    generalize decide (Int.ofNat (byteAt c i) < 97) = h1
    generalize decide (Int.ofNat (byteAt c i) > 122) = h2
    generalize decide (Int.ofNat (byteAt c i) < 48) = h3
    generalize decide (Int.ofNat (byteAt c i) > 57) = h4
    generalize (Int.ofNat (byteAt c i) != 45) = h5
    cases h1 <;> cases h2 <;> cases h3 <;> cases h4 <;> cases h5 <;> simp only [kB_true, kB_false, Bool.not_true, Bool.not_false, Bool.and_true, Bool.and_false, Bool.true_and, Bool.false_and, Bool.or_true, Bool.or_false] <;> first
      | exact ih
      | exact ⟨fun h => (by cases h), fun _ => ⟨i, rfl⟩⟩
def tt : AV := .p (.sc (.bool true))
def ff : AV := .p (.sc (.bool false))
theorem body26 (n c fuel : Nat) : kbody Tryd.prog C pol (toK noCall) 26 fuel e26 [.p (.st n c)] ⟨[],[]⟩ =
  kB (decide ((n : Int) < 1)) (some (ff, ⟨[], []⟩))
  (kB (decide ((n : Int) > 40)) (some (ff, ⟨[], []⟩))
    (kB (Nat.blt 0 n)
      (kB (decide (Int.ofNat (byteAt c 0) < 97)) (some (ff, ⟨[], []⟩))
        (kB (Nat.blt 0 n)
          (kB (decide (Int.ofNat (byteAt c 0) > 122)) (some (ff, ⟨[], []⟩))
            (onA (aloop (acode Tryd.prog C pol (toA (toK noCall)) 26 fuel b26) (some [0, 2, 3]) 0 fuel (T26 n c false (.ofNat 0)) ⟨[], []⟩)
              (fun _ st => some (tt, st)) (fun i _ st => bif Nat.beq i 0 then some (tt, st) else none) (fun T st => some (Ab.get T 2, st)))) none)) none)) := by kernel_rfl
/-- Which names are package names. -/
def pkgName (n c : Nat) : Bool := !(decide ((n : Int) < 1)) && (!(decide ((n : Int) > 40)) && (lower (byteAt c 0) && okFrom c 0 n))
def s26 (xs : List PV) : Option AV :=
  match xs with
  | [.st n c] => some (.p (.sc (.bool (pkgName n c))))
  | _ => none
theorem run26 (n c : Nat) : kbody Tryd.prog C pol (toK noCall) 26 (n + 1) e26 [.p (.st n c)] ⟨[],[]⟩ = some (.p (.sc (.bool (pkgName n c))), ⟨[], []⟩) := by
  rw [body26]
  unfold pkgName lower
  cases h1 : decide ((n : Int) < 1) with
  | true => rfl
  | false =>
    cases h2 : decide ((n : Int) > 40) with
    | true => rfl
    | false =>
      simp at h1 h2
      have h3 : Nat.blt 0 n = true := Nat.ble_eq_true_of_le (by omega)
      rw [h3]
      simp only [kB_true, kB_false]
      obtain ⟨l1, l2⟩ := loop26 n c (n + 1) (by omega) n 0 (by omega)
      cases decide (Int.ofNat (byteAt c 0) < 97) with
      | true => rfl
      | false =>
        cases decide (Int.ofNat (byteAt c 0) > 122) with
        | true => rfl
        | false =>
          simp only [kB_false]
          cases h4 : okFrom c 0 n with
          | true => rw [l1 h4]; rfl
          | false =>
            obtain ⟨j, hj⟩ := l2 h4
            rw [hj]
            rfl
theorem c26_ok : CallOk Tryd.prog (pureSpec 26 s26) := by
  refine pureSpec_ok C_ok (pol := pol) (noCall_ok _) (e := e26) (by kernel_rfl) fun xs v h => ?_
  unfold s26 at h
  split at h
  · rename_i n c
    injection h with h
    subst h
    exact ⟨by simp [noid], n + 1, _, _, kbody_eq'.trans (run26 n c), by simp [strip]⟩
  · cases h
end Go.Proofs.YtfddgmpgpnlppaaDoor.Tab
/- Valid names and symbols, by the reference. -/
set_option maxRecDepth 100000
namespace Go.Proofs.YtfddgmpgpnlppaaDoor.Tab
open Go Go.RowKit Go.Proofs.Ab

def symOk (n c m : Nat) : Bool := pkgName n c && (decide ((m : Int) ≥ 1) && decide ((m : Int) ≤ 40))
def sSym (xs : List PV) : Option AV :=
  match xs with
  | [.ag [.st n c, .st m d]] => some (.p (.sc (.bool (symOk n c m))))
  | _ => none
theorem body27 (n c m d fuel : Nat) : kbody Tryd.prog C pol (toK (pureSpec 26 s26)) 27 fuel e27 [.p (.ag [.st n c, .st m d])] ⟨[],[]⟩ =
  kB (pkgName n c)
  (kB (decide (↑m ≥ (1 : Int)))
    (some (AV.p (PV.sc (Value.bool (decide (↑m ≤ (40 : Int))))), { H := [[AV.p (PV.st n c), AV.p (PV.st m d)]], K := [] }))
    (some (AV.p (PV.sc (Value.bool false)), { H := [[AV.p (PV.st n c), AV.p (PV.st m d)]], K := [] })))
  (some (AV.p (PV.sc (Value.bool false)), { H := [[AV.p (PV.st n c), AV.p (PV.st m d)]], K := [] })) := by kernel_rfl
theorem c27_ok : CallOk Tryd.prog (pureSpec 27 sSym) := by
  refine pureSpec_ok C_ok (pol := pol) c26_ok (e := e27) (by kernel_rfl) fun xs v h => ?_
  unfold sSym at h
  split at h
  · rename_i n c m d
    injection h with h
    subst h
    have : kbody Tryd.prog C pol (toK (pureSpec 26 s26)) 27 0 e27 [.p (.ag [.st n c, .st m d])] ⟨[],[]⟩ = some (.p (.sc (.bool (symOk n c m))), { H := [[AV.p (PV.st n c), AV.p (PV.st m d)]], K := [] }) := by
      rw [body27]
      unfold symOk
      cases pkgName n c <;> cases decide ((m : Int) ≥ 1) <;> rfl
    exact ⟨by simp [noid], 0, _, _, kbody_eq'.trans this, by simp [strip]⟩
  · cases h
theorem body20 (n c m d fuel : Nat) : kbody Tryd.prog C pol (toK (pureSpec 27 sSym)) 20 fuel e20 [.p (.ag [.st n c, .st m d])] ⟨[],[]⟩ =
  some (.p (.sc (.bool (symOk n c m))), { H := [[AV.p (PV.st n c), AV.p (PV.st m d)]], K := [] }) := by kernel_rfl
theorem c20_ok : CallOk Tryd.prog (pureSpec 20 sSym) := by
  refine pureSpec_ok C_ok (pol := pol) c27_ok (e := e20) (by kernel_rfl) fun xs v h => ?_
  unfold sSym at h
  split at h
  · rename_i n c m d
    injection h with h
    subst h
    exact ⟨by simp [noid], 0, _, _, kbody_eq'.trans (body20 n c m d 0), by simp [strip]⟩
  · cases h
theorem body18 (n c fuel : Nat) : kbody Tryd.prog C pol (toK (pureSpec 26 s26)) 18 fuel e18 [.p (.st n c)] ⟨[],[]⟩ = some (.p (.sc (.bool (pkgName n c))), ⟨[], []⟩) := by kernel_rfl
theorem c18_ok : CallOk Tryd.prog (pureSpec 18 s26) := by
  refine pureSpec_ok C_ok (pol := pol) c26_ok (e := e18) (by kernel_rfl) fun xs v h => ?_
  unfold s26 at h
  split at h
  · rename_i n c
    injection h with h
    subst h
    exact ⟨by simp [noid], 0, _, _, kbody_eq'.trans (body18 n c 0), by simp [strip]⟩
  · cases h
end Go.Proofs.YtfddgmpgpnlppaaDoor.Tab
/- Valid symbols, by the implementation: the letters. -/
set_option maxRecDepth 100000
namespace Go.Proofs.YtfddgmpgpnlppaaDoor.Tab
open Go Go.RowKit Go.Proofs.Ab

noncomputable def b35 : Code := (loopOf e35.body).headD .skip
def T35 (n : Nat) (i : Int) : Frm := [(1, .ptr 0 0), (2, .p (.sc (.bool false))), (30, .p (.sc (.int .i64 n))), (31, .p (.sc (.int .i64 i)))]
def H35 (n c m d : Nat) : St := ⟨[[.p (.st n c), .p (.st m d)]], []⟩
theorem round35 (n c m d fuel i : Nat) : kcode (β := AX × Frm × St) Tryd.prog C pol (toK noCall) 35 fuel b35 (T35 n (.ofNat i)) (H35 n c m d) (fun T st => some (.normal, keepT 1 st.K.length T [1, 2, 30, 31], cutSt 1 st.K.length st)) (fun i T st => some (.exit i, keepT 1 st.K.length T [1, 2, 30, 31], cutSt 1 st.K.length st)) (fun T st => some (.ret, keepT 1 st.K.length T [1, 2, 30, 31], cutSt 1 st.K.length st)) =
  kB (decide (Int.ofNat i < ↑n)) (kB (i.blt n) (kB (decide (Int.ofNat (byteAt c i) ≥ 97)) (kB (!decide (Int.ofNat (byteAt c i) ≤ 122)) (kB (Int.ofNat i == 0) (some (AX.ret, T35 n (.ofNat i), H35 n c m d)) (kB (Int.ofNat (byteAt c i) != 45) (kB (decide (Int.ofNat (byteAt c i) < 48)) (some (AX.ret, T35 n (.ofNat i), H35 n c m d)) (kB (decide (Int.ofNat (byteAt c i) > 57)) (some (AX.ret, T35 n (.ofNat i), H35 n c m d)) (some (AX.normal, T35 n (IntKind.i64.wrap (Int.ofNat i + 1)), H35 n c m d)))) (some (AX.normal, T35 n (IntKind.i64.wrap (Int.ofNat i + 1)), H35 n c m d)))) (some (AX.normal, T35 n (IntKind.i64.wrap (Int.ofNat i + 1)), H35 n c m d))) (kB (Int.ofNat i == 0) (some (AX.ret, T35 n (.ofNat i), H35 n c m d)) (kB (Int.ofNat (byteAt c i) != 45) (kB (decide (Int.ofNat (byteAt c i) < 48)) (some (AX.ret, T35 n (.ofNat i), H35 n c m d)) (kB (decide (Int.ofNat (byteAt c i) > 57)) (some (AX.ret, T35 n (.ofNat i), H35 n c m d)) (some (AX.normal, T35 n (IntKind.i64.wrap (Int.ofNat i + 1)), H35 n c m d)))) (some (AX.normal, T35 n (IntKind.i64.wrap (Int.ofNat i + 1)), H35 n c m d))))) none) (some (AX.exit 0, T35 n (.ofNat i), H35 n c m d)) := by kernel_rfl
def okImpl (c : Nat) : Nat → Nat → Bool
  | i, 0 => true
  | i, k + 1 => (lower (byteAt c i) || (!(Int.ofNat i == 0) && okByte (byteAt c i))) && okImpl c (i + 1) k
theorem ge97 (b : Nat) : decide (Int.ofNat b ≥ 97) = !decide (Int.ofNat b < 97) := by
  rw [← decide_not]; exact decide_eq_decide.2 (by simp only [Int.ofNat_eq_natCast]; omega)
theorem le122 (b : Nat) : decide (Int.ofNat b ≤ 122) = !decide (Int.ofNat b > 122) := by
  rw [← decide_not]; exact decide_eq_decide.2 (by simp only [Int.ofNat_eq_natCast]; omega)
theorem loop35 (n c m d fuel : Nat) (hn : n < 9223372036854775808) : ∀ k i, i + k = n →
    (okImpl c i k = true → aloop (acode Tryd.prog C pol (toA (toK noCall)) 35 fuel b35) (some [1, 2, 30, 31]) 1 (k + 1) (T35 n (.ofNat i)) (H35 n c m d) = some (.exit 0, T35 n (.ofNat n), H35 n c m d)) ∧
    (okImpl c i k = false → ∃ j, aloop (acode Tryd.prog C pol (toA (toK noCall)) 35 fuel b35) (some [1, 2, 30, 31]) 1 (k + 1) (T35 n (.ofNat i)) (H35 n c m d) = some (.ret, T35 n (.ofNat j), H35 n c m d))
  | 0, i, hi => by
    have hlt : decide (Int.ofNat i < (n : Int)) = false := by simp; omega
    refine ⟨fun _ => ?_, fun h => by cases h⟩
    rw [aloop_k, round35 n c m d fuel i, hlt, kB_false]
    rw [show i = n by omega]
  | k + 1, i, hi => by
    have hlt : decide (Int.ofNat i < (n : Int)) = true := by simp; omega
    have hb : i.blt n = true := Nat.ble_eq_true_of_le (by omega)
    have ih := loop35 n c m d fuel hn k (i + 1) (by omega)
    rw [aloop_k, round35 n c m d fuel i, hlt, kB_true, hb, kB_true, wrap1 (by omega)]
    simp only [okImpl, okByte, lower, digit, ge97, le122]
    generalize decide (Int.ofNat (byteAt c i) < 97) = h1
    generalize decide (Int.ofNat (byteAt c i) > 122) = h2
    generalize decide (Int.ofNat (byteAt c i) < 48) = h3
    generalize decide (Int.ofNat (byteAt c i) > 57) = h4
    generalize (Int.ofNat (byteAt c i) != 45) = h5
    generalize (Int.ofNat i == 0) = h6
    cases h1 <;> cases h2 <;> cases h3 <;> cases h4 <;> cases h5 <;> cases h6 <;> simp only [kB_true, kB_false, Bool.not_true, Bool.not_false, Bool.and_true, Bool.and_false, Bool.true_and, Bool.false_and, Bool.or_true, Bool.or_false] <;> first
      | exact ih
      | exact ⟨fun h => (by cases h), fun _ => ⟨i, rfl⟩⟩
theorem okImpl_later (c : Nat) : ∀ k i, 0 < i → okImpl c i k = okFrom c i k
  | 0, i, h => rfl
  | k + 1, i, h => by
    have h0 : (Int.ofNat i == 0) = false := by simp; omega
    simp only [okImpl, okFrom, okImpl_later c k (i + 1) (by omega), h0, okByte]
    cases lower (byteAt c i) <;> simp
theorem okImpl_first (c n : Nat) (h : 0 < n) : okImpl c 0 n = (lower (byteAt c 0) && okFrom c 0 n) := by
  cases n with
  | zero => omega
  | succ k =>
    have h0 : (Int.ofNat 0 == 0) = true := rfl
    simp only [okImpl, okFrom, okImpl_later c k 1 (by omega), h0, okByte]
    cases lower (byteAt c 0) <;> simp
theorem body35 (n c m d fuel : Nat) : kbody Tryd.prog C pol (toK noCall) 35 fuel e35 [.p (.ag [.st n c, .st m d])] ⟨[],[]⟩ =
  kB (decide (↑n < (1 : Int))) (some (ff, H35 n c m d))
  (kB (decide (↑n > (40 : Int))) (some (ff, H35 n c m d))
    (kB (decide (↑m < (1 : Int))) (some (ff, H35 n c m d))
      (kB (decide (↑m > (40 : Int))) (some (ff, H35 n c m d))
        (onA (aloop (acode Tryd.prog C pol (toA (toK noCall)) 35 fuel b35) (some [1, 2, 30, 31]) 1 fuel (T35 n (.ofNat 0)) (H35 n c m d))
          (fun _ st => some (tt, st)) (fun i _ st => bif Nat.beq i 0 then some (tt, st) else none) (fun T st => some (Ab.get T 2, st)))))) := by kernel_rfl
theorem run35 (n c m d : Nat) : kbody Tryd.prog C pol (toK noCall) 35 (n + 1) e35 [.p (.ag [.st n c, .st m d])] ⟨[],[]⟩ = some (.p (.sc (.bool (symOk n c m))), H35 n c m d) := by
  rw [body35]
  unfold symOk pkgName
  by_cases h1 : (n : Int) < 1
  · simp only [h1, decide_true, kB_true, Bool.not_true, Bool.false_and]; rfl
  by_cases h2 : (n : Int) > 40
  · simp only [h1, h2, decide_true, decide_false, kB_true, kB_false, Bool.not_true, Bool.false_and, Bool.and_false]; rfl
  by_cases h3 : (m : Int) < 1
  · have h3' : ¬ (m : Int) ≥ 1 := by omega
    simp only [h1, h2, h3, h3', decide_true, decide_false, kB_true, kB_false, Bool.false_and, Bool.and_false]; rfl
  have h3' : (m : Int) ≥ 1 := by omega
  by_cases h4 : (m : Int) > 40
  · have h4' : ¬ (m : Int) ≤ 40 := by omega
    simp only [h1, h2, h3, h4, h4', decide_true, decide_false, kB_true, kB_false, Bool.and_false]; rfl
  have h4' : (m : Int) ≤ 40 := by omega
  simp only [h1, h2, h3, h4, h3', h4', decide_true, decide_false, kB_false, Bool.not_false, Bool.and_true, Bool.true_and]
  obtain ⟨l1, l2⟩ := loop35 n c m d (n + 1) (by omega) n 0 (by omega)
  rw [okImpl_first c n (by omega)] at l1 l2
  cases h5 : (lower (byteAt c 0) && okFrom c 0 n) with
  | true => rw [l1 h5]; rfl
  | false =>
    obtain ⟨j, hj⟩ := l2 h5
    rw [hj]
    rfl
theorem c35_ok : CallOk Tryd.prog (pureSpec 35 sSym) := by
  refine pureSpec_ok C_ok (pol := pol) (noCall_ok _) (e := e35) (by kernel_rfl) fun xs v h => ?_
  unfold sSym at h
  split at h
  · rename_i n c m d
    injection h with h
    subst h
    exact ⟨by simp [noid], n + 1, _, _, kbody_eq'.trans (run35 n c m d), by simp [strip]⟩
  · cases h
end Go.Proofs.YtfddgmpgpnlppaaDoor.Tab
/- Valid names and symbols, by the implementation. -/
set_option maxRecDepth 100000
namespace Go.Proofs.YtfddgmpgpnlppaaDoor.Tab
open Go Go.RowKit Go.Proofs.Ab

noncomputable def m35 (k : Nat) : ACall := amix Tryd.prog C pol (pureSpec 35 sSym) k
theorem m35_ok (k : Nat) : CallOk Tryd.prog (m35 k) := amix_ok C_ok pol c35_ok k
def H1 (n c m d : Nat) : St := ⟨[[.p (.st n c), .p (.st m d)]], []⟩
theorem body14 (n c m d : Nat) : kbody Tryd.prog C pol (toK (m35 8)) 14 8 e14 [.p (.ag [.st n c, .st m d])] ⟨[],[]⟩ = some (.p (.sc (.bool (symOk n c m))), H1 n c m d) := by kernel_rfl
theorem c14_ok : CallOk Tryd.prog (pureSpec 14 sSym) := by
  refine pureSpec_ok C_ok (pol := pol) (m35_ok 8) (e := e14) (by kernel_rfl) fun xs v h => ?_
  unfold sSym at h
  split at h
  · rename_i n c m d
    injection h with h
    subst h
    exact ⟨by simp [noid], 8, _, _, kbody_eq'.trans (body14 n c m d), by simp [strip]⟩
  · cases h
theorem body11 (n c fuel : Nat) : kbody Tryd.prog C pol (toK (pureSpec 14 sSym)) 11 fuel e11 [.p (.st n c)] ⟨[],[]⟩ = some (.p (.sc (.bool (symOk n c 1))), ⟨[], []⟩) := by kernel_rfl
theorem c11_ok : CallOk Tryd.prog (pureSpec 11 s26) := by
  refine pureSpec_ok C_ok (pol := pol) c14_ok (e := e11) (by kernel_rfl) fun xs v h => ?_
  unfold s26 at h
  split at h
  · rename_i n c
    injection h with h
    subst h
    refine ⟨by simp [noid], 0, _, _, kbody_eq'.trans (body11 n c 0), ?_⟩
    have : symOk n c 1 = pkgName n c := by unfold symOk; cases pkgName n c <;> rfl
    rw [this]
    simp [strip]
  · cases h
end Go.Proofs.YtfddgmpgpnlppaaDoor.Tab
/- few; ContainsFunc with Define's closure; Clone. -/
set_option maxRecDepth 100000
namespace Go.Proofs.YtfddgmpgpnlppaaDoor.Tab
open Go Go.RowKit Go.Proofs.Ab

/-! ### few -/
def fFew (a : List Pk × Unit) : Bool := !decide ((a.1.length : Int) > 5) && (a.1.findIdx? fun p => decide ((p.imp.length : Int) > 6)).isNone
def T5 (l : List Pk) (i : Int) : Frm := [(0, .p (toPV l)), (2, BV false), (3, .p (.sc (.int .i64 i)))]
theorem body5 (l : List Pk) (fuel : Nat) : kbody Tryd.prog C pol (toK noCall) 5 fuel e5 [.p (toPV l)] ⟨[],[]⟩ =
  kB (decide ((l.length : Int) > 5)) (some (BV false, ⟨[], []⟩)) (loopK Tryd.prog C pol (toK noCall) 5 fuel e5 [0, 2, 3] 0 0 (T5 l 0) ⟨[], []⟩) := by kernel_rfl
theorem round5 (l : List Pk) (fuel i : Nat) : kround Tryd.prog C pol (toK noCall) 5 fuel (loopNo 0 e5.body) [0, 2, 3] 0 (T5 l (.ofNat i)) ⟨[],[]⟩ =
  kB (decide (Int.ofNat i < Int.ofNat l.length))
  (kB (i.blt l.length)
    (kB (decide (((l.getD i default).imp.length : Int) > 6)) (some (AX.ret, T5 l (.ofNat i), ⟨[], []⟩))
      (some (AX.normal, T5 l (IntKind.i64.wrap (Int.ofNat i + 1)), ⟨[], []⟩)))
    none)
  (some (AX.exit 0, T5 l (.ofNat i), ⟨[], []⟩)) := by kernel_rfl
theorem end5a (l : List Pk) (fuel : Nat) (i : Int) : afterK Tryd.prog C pol (toK noCall) 5 fuel e5 (T5 l i) ⟨[], []⟩ = some (BV true, ⟨[], []⟩) := by kernel_rfl
theorem end5b (l : List Pk) (i : Int) : resK Tryd.prog e5 (T5 l i) ⟨[], []⟩ = some (BV false, ⟨[], []⟩) := by kernel_rfl
theorem loop5 (l : List Pk) (fuel : Nat) (hl : l.length < 9223372036854775808) (hf : l.length < fuel) :
    aloop (acode Tryd.prog C pol (toA (toK noCall)) 5 fuel (loopNo 0 e5.body)) (some [0, 2, 3]) 0 fuel (T5 l 0) ⟨[], []⟩ = match l.findIdx? fun p => decide ((p.imp.length : Int) > 6) with
      | some j => some (.ret, T5 l (.ofNat j), ⟨[], []⟩)
      | none => some (.exit 0, T5 l (.ofNat l.length), ⟨[], []⟩) := by
  have := loop_for (S := Unit) (kc := toK noCall) (P := Tryd.prog) (C := C) (pol := pol) (fid := 5) (fuel := fuel) (c := loopNo 0 e5.body) (l := [0, 2, 3]) (n := 0)
    (fun i _ => (T5 l (.ofNat i), ⟨[], []⟩)) (fun i _ => bif decide (((l.getD i default).imp.length : Int) > 6) then .inr (none, T5 l (.ofNat i), ⟨[], []⟩) else .inl ()) (fun _ => (some 0, T5 l (.ofNat l.length), ⟨[], []⟩)) l.length (fun _ _ => True)
    (fun i _ hi _ => by
      simp only [round5]
      rw [decide_eq_true (by exact Int.ofNat_lt.2 hi : Int.ofNat i < Int.ofNat l.length), show i.blt l.length = true from Nat.ble_eq_true_of_le hi, wrap1 (by omega)]
      cases decide (((l.getD i default).imp.length : Int) > 6) <;> rfl)
    (fun _ _ _ _ _ _ => trivial)
    (fun _ _ => by
      simp only [round5]
      rw [decide_eq_false (by simp : ¬ Int.ofNat l.length < Int.ofNat l.length)]
      rfl)
    l.length 0 () fuel (by omega) trivial hf
  refine Eq.trans this ?_
  rw [iter_find (fun p : Pk => decide ((p.imp.length : Int) > 6)) default]
  cases l.findIdx? fun p => decide ((p.imp.length : Int) > 6) <;> rfl
theorem c5_ok : CallOk Tryd.prog (toA (tspec 5 (GoA.bnd (A := List Pk × Unit)) fFew)) := by
  refine tspec_ok C_ok (pol := pol) (noCall_ok _) (e := e5) (by kernel_rfl) fun a ha => ?_
  obtain ⟨l, ⟨⟩⟩ := a
  simp only [bnd_arg, Bool.and_eq_true] at ha
  have hl := small_lt (bnd_small ha.1)
  refine ⟨l.length + 1, ?_⟩
  show ∃ v0 st', abody Tryd.prog C pol noCall 5 (l.length + 1) e5 [.p (toPV l)] ⟨[], []⟩ = some (v0, st') ∧ _
  rw [kbody_eq', body5]
  unfold fFew
  simp only [loopK, loop5 l _ hl (Nat.lt_succ_self _)]
  cases decide ((l.length : Int) > 5) with
  | true => exact ⟨_, _, rfl, rfl, rfl⟩
  | false =>
    cases l.findIdx? fun p => decide ((p.imp.length : Int) > 6) with
    | none => exact ⟨_, _, end5a l (l.length + 1) _, rfl, rfl⟩
    | some j => exact ⟨_, _, end5b l _, rfl, rfl⟩

/-! ### ContainsFunc -/
noncomputable def kIn : KCall := toK (acallStep Tryd.prog C pol noCall 5)
theorem kIn_ok : CallOk Tryd.prog (toA kIn) := by
  unfold kIn
  rw [toA_toK]
  exact acallStep_ok C_ok pol (noCall_ok _) 5
def HS (a b c d : PV) (s : Sy) : St := ⟨[[.p a, .p b], [.p c, .p d], cellsA s], []⟩
def clo : AV := .fn (.func 13) [] [.ptr 2 0]
def T25 (l : List Sy) (r i : Int) : Frm := [(0, .p (toPV l)), (1, clo), (4, .p (.sc (.int .i64 r))), (7, N l.length), (8, .p (.sc (.int .i64 i)))]
theorem body25 (l : List Sy) (a b c d : PV) (s : Sy) (fuel : Nat) : kbody Tryd.prog C pol kIn 25 fuel e25 [.p (toPV l), clo] (HS a b c d s) =
  loopK Tryd.prog C pol kIn 25 fuel e25 [0, 1, 4, 7, 8] 3 0 (T25 l 0 0) (HS a b c d s) := by kernel_rfl
theorem round25 (l : List Sy) (a b c d : PV) (s : Sy) (fuel i : Nat) : kround Tryd.prog C pol kIn 25 fuel (loopNo 0 e25.body) [0, 1, 4, 7, 8] 3 (T25 l 0 (.ofNat i)) (HS a b c d s) =
  kB (decide (Int.ofNat i < Int.ofNat l.length))
  (kB (i.blt l.length)
    (kB ((l.getD i default).nm.eq s.nm) (some (AX.ret, T25 l (.ofNat i) (.ofNat i), HS a b c d s))
      (some (AX.normal, T25 l 0 (IntKind.i64.wrap (Int.ofNat i + 1)), HS a b c d s)))
    none)
  (some (AX.exit 0, T25 l 0 (.ofNat i), HS a b c d s)) := by kernel_rfl
theorem end25a (l : List Sy) (a b c d : PV) (s : Sy) (fuel : Nat) (i : Int) : afterK Tryd.prog C pol kIn 25 fuel e25 (T25 l 0 i) (HS a b c d s) = some (.p (.sc (.int .i64 (-1))), HS a b c d s) := by kernel_rfl
theorem end25b (l : List Sy) (a b c d : PV) (s : Sy) (r i : Int) : resK Tryd.prog e25 (T25 l r i) (HS a b c d s) = some (.p (.sc (.int .i64 r)), HS a b c d s) := by kernel_rfl
theorem loop25 (l : List Sy) (a b c d : PV) (s : Sy) (fuel : Nat) (hl : l.length < 9223372036854775808) (hf : l.length < fuel) :
    aloop (acode Tryd.prog C pol (toA kIn) 25 fuel (loopNo 0 e25.body)) (some [0, 1, 4, 7, 8]) 3 fuel (T25 l 0 0) (HS a b c d s) = match l.findIdx? fun x => x.nm.eq s.nm with
      | some j => some (.ret, T25 l (.ofNat j) (.ofNat j), HS a b c d s)
      | none => some (.exit 0, T25 l 0 (.ofNat l.length), HS a b c d s) := by
  have := loop_for (S := Unit) (kc := kIn) (P := Tryd.prog) (C := C) (pol := pol) (fid := 25) (fuel := fuel) (c := loopNo 0 e25.body) (l := [0, 1, 4, 7, 8]) (n := 3)
    (fun i _ => (T25 l 0 (.ofNat i), HS a b c d s)) (fun i _ => bif (l.getD i default).nm.eq s.nm then .inr (none, T25 l (.ofNat i) (.ofNat i), HS a b c d s) else .inl ()) (fun _ => (some 0, T25 l 0 (.ofNat l.length), HS a b c d s)) l.length (fun _ _ => True)
    (fun i _ hi _ => by
      simp only [round25]
      rw [decide_eq_true (by exact Int.ofNat_lt.2 hi : Int.ofNat i < Int.ofNat l.length), show i.blt l.length = true from Nat.ble_eq_true_of_le hi, wrap1 (by omega)]
      cases (l.getD i default).nm.eq s.nm <;> rfl)
    (fun _ _ _ _ _ _ => trivial)
    (fun _ _ => by
      simp only [round25]
      rw [decide_eq_false (by simp : ¬ Int.ofNat l.length < Int.ofNat l.length)]
      rfl)
    l.length 0 () fuel (by omega) trivial hf
  refine Eq.trans this ?_
  rw [iter_find (fun x : Sy => x.nm.eq s.nm) default]
  cases l.findIdx? fun x => x.nm.eq s.nm <;> rfl
/-- The index of a name in a list of symbols. -/
def idxOf (l : List Sy) (s : Str) : Int :=
  match l.findIdx? fun x => x.nm.eq s with
  | some j => .ofNat j
  | none => -1
def s25 (xs : List AV) (st : St) : Option (Bool × AV) :=
  match xs, st with
  | [.p x, .fn (.func 13) [] [.ptr 2 0]], ⟨[[.p _, .p _], [.p _, .p _], [.p (.st _ _), .p (.st n c)]], []⟩ => some (okPV (List Sy) x && small (decPV (T := List Sy) x), .p (.sc (.int .i64 (idxOf (decPV x) ⟨n, c⟩))))
  | _, _ => none
theorem c25_ok : CallOk Tryd.prog (toA (clookSpec 25 s25)) := by
  refine clookSpec_ok C_ok (pol := pol) kIn_ok (e := e25) (by kernel_rfl) fun xs st v h => ?_
  unfold s25 at h
  split at h
  · rename_i x a b c d g1 g2 n cc
    simp only [Option.some.injEq, Prod.mk.injEq, Bool.and_eq_true] at h
    obtain ⟨⟨hx, hl⟩, rfl⟩ := h
    have hl := small_lt hl
    generalize hll : (decPV x : List Sy) = l at hl ⊢
    refine ⟨[.p (toPV l), clo], fun Γ vs hv => ?_, l.length + 1, ?_⟩
    · simp only [VRs] at hv ⊢
      obtain ⟨u, us, rfl, h1, h2⟩ := hv
      simp only [VR] at h1
      exact ⟨u, us, rfl, by rw [← hll]; simp only [VR]; exact okPV_PR hx h1, h2⟩
    · rw [kbody_eq]
      show ∃ v0 st', kbody Tryd.prog C pol kIn 25 (l.length + 1) e25 [.p (toPV l), clo] (HS a b c d ⟨⟨g1, g2⟩, ⟨n, cc⟩⟩) = some (v0, st') ∧ _
      rw [body25]
      simp only [loopK, loop25 l a b c d _ _ hl (Nat.lt_succ_self _)]
      unfold idxOf
      cases l.findIdx? fun x => x.nm.eq ⟨n, cc⟩ with
      | none => exact ⟨_, _, end25a l a b c d ⟨⟨g1, g2⟩, ⟨n, cc⟩⟩ (l.length + 1) _, fun Γ u k => k, rfl⟩
      | some j => exact ⟨_, _, end25b l a b c d ⟨⟨g1, g2⟩, ⟨n, cc⟩⟩ _ _, fun Γ u k => k, rfl⟩
  · cases h
def s15 (xs : List AV) (st : St) : Option (Bool × AV) :=
  match xs, st with
  | [.p x, .fn (.func 13) [] [.ptr 2 0]], ⟨[[.p _, .p _], [.p _, .p _], [.p (.st _ _), .p (.st n c)]], []⟩ => some (okPV (List Sy) x && small (decPV (T := List Sy) x), .p (.sc (.bool (decide (idxOf (decPV x) ⟨n, c⟩ ≥ 0)))))
  | _, _ => none
theorem body15 (l : List Sy) (a b c d : PV) (s : Sy) (fuel : Nat) : kbody Tryd.prog C pol (clookSpec 25 s25) 15 fuel e15 [.p (toPV l), clo] (HS a b c d s) =
  kB (okPV (List Sy) (toPV l) && small (decPV (T := List Sy) (toPV l))) (some (BV (decide (idxOf (decPV (toPV l)) s.nm ≥ 0)), HS a b c d s)) none := by kernel_rfl
theorem c15_ok : CallOk Tryd.prog (toA (clookSpec 15 s15)) := by
  refine clookSpec_ok C_ok (pol := pol) c25_ok (e := e15) (by kernel_rfl) fun xs st v h => ?_
  unfold s15 at h
  split at h
  · rename_i x a b c d g1 g2 n cc
    simp only [Option.some.injEq, Prod.mk.injEq, Bool.and_eq_true] at h
    obtain ⟨⟨hx, hl⟩, rfl⟩ := h
    generalize hll : (decPV x : List Sy) = l at hl ⊢
    refine ⟨[.p (toPV l), clo], fun Γ vs hv => ?_, 0, ?_⟩
    · simp only [VRs] at hv ⊢
      obtain ⟨u, us, rfl, h1, h2⟩ := hv
      simp only [VR] at h1
      exact ⟨u, us, rfl, by rw [← hll]; simp only [VR]; exact okPV_PR hx h1, h2⟩
    · rw [kbody_eq]
      show ∃ v0 st', kbody Tryd.prog C pol (clookSpec 25 s25) 15 0 e15 [.p (toPV l), clo] (HS a b c d ⟨⟨g1, g2⟩, ⟨n, cc⟩⟩) = some (v0, st') ∧ _
      rw [body15, okPV_to, decPV_to, hl]
      exact ⟨_, _, rfl, fun Γ u k => k, rfl⟩
  · cases h
end Go.Proofs.YtfddgmpgpnlppaaDoor.Tab
/- Define: what it is made of. -/
set_option maxRecDepth 100000
namespace Go.Proofs.YtfddgmpgpnlppaaDoor.Tab
open Go Go.RowKit Go.Proofs.Ab

theorem c16_ok : CallOk Tryd.prog (toA (keepK 16 (sClone 2 32))) := sClone_ok C_ok (pol := pol) (e := e16) (by kernel_rfl) (fun _ _ _ => by kernel_rfl) (fun _ => by kernel_rfl) (fun _ _ => by kernel_rfl)
theorem c17_ok : CallOk Tryd.prog (toA (keepK 17 (sClone 2 40))) := sClone_ok C_ok (pol := pol) (e := e17) (by kernel_rfl) (fun _ _ _ => by kernel_rfl) (fun _ => by kernel_rfl) (fun _ _ => by kernel_rfl)
noncomputable def kD6 : KCall := orK (toK (pureSpec 11 s26)) (orK (tspec 12 (GoA.bnd (A := List Pk × Str × Unit)) fFind) (orK (toK (pureSpec 14 sSym)) (orK (tspec 10 (GoA.bnd (A := List Pk × Sy × Unit)) fHome) (orK (clookSpec 15 s15) (orK (keepK 16 (sClone 2 32)) (keepK 17 (sClone 2 40)))))))
theorem kD6_ok : CallOk Tryd.prog (toA kD6) := orK_ok (by rw [toA_toK]; exact c11_ok) (orK_ok c12_ok' (orK_ok (by rw [toA_toK]; exact c14_ok) (orK_ok c10_ok (orK_ok c15_ok (orK_ok c16_ok c17_ok)))))
noncomputable def kD7 : KCall := orK (toK (pureSpec 18 s26)) (orK (tspec 19 (GoA.bnd (A := List Pk × Str × Unit)) fFind) (orK (toK (pureSpec 20 sSym)) (tspec 21 (GoA.bnd (A := List Pk × Sy × Unit)) fHome)))
theorem kD7_ok : CallOk Tryd.prog (toA kD7) := orK_ok (by rw [toA_toK]; exact c18_ok) (orK_ok c19_ok' (orK_ok (by rw [toA_toK]; exact c20_ok) c21_ok))
def HD (p : Pk) (w : Nat) (x : Pk) : St := ⟨[[.p (toPV p.name), .p (rowZ w p.imp)], cellsA x], []⟩
def nilV : AV := .p (.sc (.slice none 0 0))
def IV (i : Int) : AV := .p (.sc (.int .i64 i))
def T6 (l : List Pk) (p : Pk) (z w : Nat) (err i : Int) : Frm := [(0, .p (rowZ z l)), (3, .ptr 0 0), (4, nilV), (5, IV err), (28, .p (rowZ w p.imp)), (29, N p.imp.length), (30, IV i)]
def T7 (l : List Pk) (p : Pk) (z : Nat) (err i : Int) : Frm := [(0, .p (rowZ z l)), (3, .ptr 0 0), (4, nilV), (5, IV err), (8, IV i)]
def pkZ (p : Pk) (w : Nat) : PV := .ag [toPV p.name, rowZ w p.imp]
abbrev RE := R2 Unk Int
def er (i : Int) : RE := ⟨⟨⟩, i⟩
end Go.Proofs.YtfddgmpgpnlppaaDoor.Tab
/- Define's error, by both sides. -/
set_option maxRecDepth 100000
namespace Go.Proofs.YtfddgmpgpnlppaaDoor.Tab
open Go Go.RowKit Go.Proofs.Ab

def sAt (p : Pk) (i : Nat) : Sy := p.imp.getD i default
def pre (l : List Sy) (i : Nat) : List Sy := (List.range i).map fun j => l.getD j default
theorem pre_getD (l : List Sy) {i k : Nat} (h : k < i) : (pre l i).getD k default = l.getD k default := by
  unfold pre
  simp [h]
theorem pre_length (l : List Sy) (i : Nat) : (pre l i).length = i := by simp [pre]
def stepErr (l : List Pk) (p : Pk) (i : Nat) : Option Int :=
  match symOk (sAt p i).pk.n (sAt p i).pk.c (sAt p i).nm.n with
  | false => some 3
  | true => match fHome (l, sAt p i, ()) with
    | false => some 13
    | true => match (pre p.imp i).findIdx? fun x => x.nm.eq (sAt p i).nm with
      | some _ => some 4
      | none => none
def firstErr (l : List Pk) (p : Pk) : Option (Nat × Int) := (List.range' 0 p.imp.length).findSome? fun j => (stepErr l p j).map fun e => (j, e)
def fDef (a : List Pk × Pk × Unit) : RE :=
  match pkgName a.2.1.name.n a.2.1.name.c with
  | false => er 3
  | true => match (fFind (a.1, a.2.1.name, ())).b with
    | true => er 4
    | false => match decide ((a.2.1.imp.length : Int) > 200) with
      | true => er 2
      | false => match firstErr a.1 a.2.1 with
        | some (_, e) => er e
        | none => er 0
theorem bnd_at {l : List Pk} {p : Pk} (hl : GoT.bnd l = true) (hp : GoT.bnd p = true) (i : Nat) : tcond (A := List Pk × Sy × Unit) (l, sAt p i, ()) = true := by
  have hp : (GoT.bnd p.name && GoT.bnd p.imp) = true := hp
  simp only [Bool.and_eq_true] at hp
  simp only [tcond_eq, bnd_arg, Bool.and_eq_true]
  exact ⟨hl, all_getD (bnd_all hp.2) rfl i, rfl⟩

/-! ### the implementation's -/
def R6 (p : Pk) (w i : Nat) : PV := .fr w 2 (i - 0) fun j => toPV (p.imp.getD (0 + j) default)
theorem R6_ok (p : Pk) (w i : Nat) : okPV (List Sy) (R6 p w i) = true := by
  have : okPV (List Sy) (R6 p w i) = (Nat.beq 2 2 && allB (i - 0) fun j => okPV Sy (toPV (p.imp.getD (0 + j) default))) := rfl
  rw [this]
  simp only [okPV_to, Bool.and_eq_true]
  exact ⟨rfl, allB_true _ fun _ _ => rfl⟩
theorem R6_dec (p : Pk) (w i : Nat) : (decPV (R6 p w i) : List Sy) = pre p.imp i := by
  have : (decPV (R6 p w i) : List Sy) = (List.range (i - 0)).map fun j => decPV (toPV (p.imp.getD (0 + j) default)) := rfl
  rw [this]
  simp only [decPV_to, Nat.zero_add, Nat.sub_zero]
  rfl
theorem body6 (l : List Pk) (p : Pk) (z w fuel : Nat) : kbodyT Tryd.prog C pol kD6 6 fuel e6 RE [.p (rowZ z l), .p (pkZ p w)] ⟨[],[]⟩ =
  kB (!pkgName p.name.n p.name.c) (some (er 3))
  (kB (tcond (l, p.name, ()))
    (kB (fFind (RA (l, p.name, ()))).b (some (er 4))
      (kB (decide ((p.imp.length : Int) > 200)) (some (er 2))
        (loopT Tryd.prog C pol kD6 6 fuel e6 0 RE [0, 3, 4, 5, 28, 29, 30] 2 0 (T6 l p z w 0 0) (HD p w (fFind (RA (l, p.name, ()))).a))))
    none) := by kernel_rfl
theorem round6 (l : List Pk) (p x : Pk) (z w fuel i : Nat) : kround Tryd.prog C pol kD6 6 fuel (loopNo 0 e6.body) [0, 3, 4, 5, 28, 29, 30] 2 (T6 l p z w 0 (.ofNat i)) (HD p w x) =
  kB (decide (Int.ofNat i < Int.ofNat p.imp.length))
  (kB (i.blt p.imp.length)
    (kB (!symOk (sAt p i).pk.n (sAt p i).pk.c (sAt p i).nm.n) (some (AX.ret, T6 l p z w 3 (.ofNat i), HD p w x))
      (kB (tcond (l, sAt p i, ()))
        (kB (!fHome (RA (l, sAt p i, ()))) (some (AX.ret, T6 l p z w 13 (.ofNat i), HD p w x))
          (kB (i.ble p.imp.length)
            (kB (okPV (List Sy) (R6 p w i) && small (decPV (T := List Sy) (R6 p w i)))
              (kB (decide (idxOf (decPV (R6 p w i)) (sAt p i).nm ≥ 0)) (some (AX.ret, T6 l p z w 4 (.ofNat i), HD p w x))
                (some (AX.normal, T6 l p z w 0 (IntKind.i64.wrap (Int.ofNat i + 1)), HD p w x)))
              none)
            none))
        none))
    none)
  (some (AX.exit 0, T6 l p z w 0 (.ofNat i), HD p w x)) := by kernel_rfl
theorem ret6 (l : List Pk) (p x : Pk) (z w : Nat) (e i : Int) : resT Tryd.prog e6 RE (T6 l p z w e i) (HD p w x) = some (er e) := by kernel_rfl
theorem idx_ge (l : List Sy) (s : Str) : decide (idxOf l s ≥ 0) = (l.findIdx? fun x => x.nm.eq s).isSome := by
  unfold idxOf
  cases l.findIdx? fun x => x.nm.eq s with
  | none => rfl
  | some j => simp
theorem loop6 (l : List Pk) (p x : Pk) (z w fuel : Nat) (hl : GoT.bnd l = true) (hp : GoT.bnd p = true) (hn : p.imp.length < 9223372036854775808) (hf : p.imp.length < fuel) :
    aloop (acode Tryd.prog C pol (toA kD6) 6 fuel (loopNo 0 e6.body)) (some [0, 3, 4, 5, 28, 29, 30]) 2 fuel (T6 l p z w 0 0) (HD p w x) = match firstErr l p with
      | some (j, e) => some (.ret, T6 l p z w e (.ofNat j), HD p w x)
      | none => some (.exit 0, T6 l p z w 0 (.ofNat p.imp.length), HD p w x) := by
  have := loop_for (S := Unit) (kc := kD6) (P := Tryd.prog) (C := C) (pol := pol) (fid := 6) (fuel := fuel) (c := loopNo 0 e6.body) (l := [0, 3, 4, 5, 28, 29, 30]) (n := 2)
    (fun i _ => (T6 l p z w 0 (.ofNat i), HD p w x)) (fun i _ => stepOf (stepErr l p i) fun e => (none, T6 l p z w e (.ofNat i), HD p w x)) (fun _ => (some 0, T6 l p z w 0 (.ofNat p.imp.length), HD p w x)) p.imp.length (fun _ _ => True)
    (fun i _ hi _ => by
      simp only [round6]
      rw [decide_eq_true (by exact Int.ofNat_lt.2 hi : Int.ofNat i < Int.ofNat p.imp.length), show i.blt p.imp.length = true from Nat.ble_eq_true_of_le hi, show i.ble p.imp.length = true from Nat.ble_eq_true_of_le (Nat.le_of_lt hi),
        wrap1 (by omega), bnd_at hl hp, RA_eq, R6_ok, R6_dec, idx_ge, show small (pre p.imp i) = true from Nat.ble_eq_true_of_le (by rw [pre_length]; omega)]
      unfold stepErr
      cases symOk (sAt p i).pk.n (sAt p i).pk.c (sAt p i).nm.n with
      | false => rfl
      | true =>
        cases fHome (l, sAt p i, ()) with
        | false => rfl
        | true => cases (pre p.imp i).findIdx? fun x => x.nm.eq (sAt p i).nm <;> rfl)
    (fun _ _ _ _ _ _ => trivial)
    (fun _ _ => by
      simp only [round6]
      rw [decide_eq_false (by simp : ¬ Int.ofNat p.imp.length < Int.ofNat p.imp.length)]
      rfl)
    p.imp.length 0 () fuel (by omega) trivial hf
  refine Eq.trans this ?_
  rw [iter_first (stepErr l p) (fun i e => ((none, T6 l p z w e (.ofNat i), HD p w x) : LEnd))]
  unfold firstErr
  cases (List.range' 0 p.imp.length).findSome? fun j => (stepErr l p j).map fun e => (j, e) <;> rfl

/-! ### the reference's -/
def T7i (l : List Pk) (p : Pk) (z : Nat) (err i k : Int) : Frm := [(0, .p (rowZ z l)), (3, .ptr 0 0), (4, nilV), (5, IV err), (8, IV i), (9, .ptr 2 0), (10, IV k)]
def HD3 (p : Pk) (w : Nat) (x : Pk) (s : Sy) : St := ⟨[[.p (toPV p.name), .p (rowZ w p.imp)], cellsA x, cellsA s], []⟩
theorem body7 (l : List Pk) (p : Pk) (z w fuel : Nat) : kbodyT Tryd.prog C pol kD7 7 fuel e7 RE [.p (rowZ z l), .p (pkZ p w)] ⟨[],[]⟩ =
  kB (!pkgName p.name.n p.name.c) (some (er 3))
  (kB (tcond (l, p.name, ()))
    (kB (fFind (RA (l, p.name, ()))).b (some (er 4))
      (kB (decide ((p.imp.length : Int) > 200)) (some (er 2))
        (loopT Tryd.prog C pol kD7 7 fuel e7 0 RE [0, 3, 4, 5, 8] 2 0 (T7 l p z 0 0) (HD p w (fFind (RA (l, p.name, ()))).a))))
    none) := by kernel_rfl
noncomputable def KN7 (fuel : Nat) (T : Frm) (st : St) : Option (AX × Frm × St) := kround Tryd.prog C pol kD7 7 fuel (restOf (loopNo 0 e7.body)) [0, 3, 4, 5, 8] 2 T st
theorem round7 (l : List Pk) (p x : Pk) (z w fuel i : Nat) : kround Tryd.prog C pol kD7 7 fuel (loopNo 0 e7.body) [0, 3, 4, 5, 8] 2 (T7 l p z 0 (.ofNat i)) (HD p w x) =
  kB (decide (Int.ofNat i < Int.ofNat p.imp.length))
  (kB (i.blt p.imp.length)
    (kB (!symOk (sAt p i).pk.n (sAt p i).pk.c (sAt p i).nm.n) (some (AX.ret, T7 l p z 3 (.ofNat i), HD p w x))
      (kB (tcond (l, sAt p i, ()))
        (kB (!fHome (RA (l, sAt p i, ()))) (some (AX.ret, T7 l p z 13 (.ofNat i), HD p w x))
          (onA (aloop (acode Tryd.prog C pol (toA kD7) 7 fuel (loopNo 1 e7.body)) (some [0, 3, 4, 5, 8, 9, 10]) 3 fuel (T7i l p z 0 (.ofNat i) 0) (HD3 p w x (sAt p i)))
            (KN7 fuel) (fun i T st => bif Nat.beq i 2 then KN7 fuel T st else bif Nat.beq i 1 then KN7 fuel T st else some (.exit i, keepT 2 st.K.length T [0, 3, 4, 5, 8], cutSt 2 st.K.length st))
            (fun T st => some (.ret, keepT 2 st.K.length T [0, 3, 4, 5, 8], cutSt 2 st.K.length st))))
        none))
    none)
  (some (AX.exit 0, T7 l p z 0 (.ofNat i), HD p w x)) := by kernel_rfl
theorem round7i (l : List Pk) (p x : Pk) (s : Sy) (z w fuel i k : Nat) : kround Tryd.prog C pol kD7 7 fuel (loopNo 1 e7.body) [0, 3, 4, 5, 8, 9, 10] 3 (T7i l p z 0 (.ofNat i) (.ofNat k)) (HD3 p w x s) =
  kB (decide (Int.ofNat k < Int.ofNat i))
  (kB (k.blt p.imp.length)
    (kB ((p.imp.getD k default).nm.eq s.nm) (some (AX.ret, T7i l p z 4 (.ofNat i) (.ofNat k), HD3 p w x s))
      (some (AX.normal, T7i l p z 0 (.ofNat i) (IntKind.i64.wrap (Int.ofNat k + 1)), HD3 p w x s)))
    none)
  (some (AX.exit 2, T7i l p z 0 (.ofNat i) (.ofNat k), HD3 p w x s)) := by kernel_rfl
theorem next7 (l : List Pk) (p x : Pk) (s : Sy) (z w fuel : Nat) (i k : Int) : KN7 fuel (T7i l p z 0 i k) (HD3 p w x s) = some (.normal, T7 l p z 0 (IntKind.i64.wrap (i + 1)), HD p w x) := by kernel_rfl
theorem ret7 (l : List Pk) (p x : Pk) (z w : Nat) (e i : Int) : resT Tryd.prog e7 RE (T7 l p z e i) (HD p w x) = some (er e) := by kernel_rfl
theorem loop7i (l : List Pk) (p x : Pk) (s : Sy) (z w fuel i : Nat) (hi : i < p.imp.length) (hn : p.imp.length < 9223372036854775808) (hf : i < fuel) :
    aloop (acode Tryd.prog C pol (toA kD7) 7 fuel (loopNo 1 e7.body)) (some [0, 3, 4, 5, 8, 9, 10]) 3 fuel (T7i l p z 0 (.ofNat i) 0) (HD3 p w x s) = match (pre p.imp i).findIdx? fun x => x.nm.eq s.nm with
      | some j => some (.ret, T7i l p z 4 (.ofNat i) (.ofNat j), HD3 p w x s)
      | none => some (.exit 2, T7i l p z 0 (.ofNat i) (.ofNat i), HD3 p w x s) := by
  have := loop_for (S := Unit) (kc := kD7) (P := Tryd.prog) (C := C) (pol := pol) (fid := 7) (fuel := fuel) (c := loopNo 1 e7.body) (l := [0, 3, 4, 5, 8, 9, 10]) (n := 3)
    (fun k _ => (T7i l p z 0 (.ofNat i) (.ofNat k), HD3 p w x s)) (fun k _ => bif ((pre p.imp i).getD k default).nm.eq s.nm then .inr (none, T7i l p z 4 (.ofNat i) (.ofNat k), HD3 p w x s) else .inl ()) (fun _ => (some 2, T7i l p z 0 (.ofNat i) (.ofNat i), HD3 p w x s)) i (fun _ _ => True)
    (fun k _ hk _ => by
      simp only [round7i]
      rw [decide_eq_true (by exact Int.ofNat_lt.2 hk : Int.ofNat k < Int.ofNat i), show k.blt p.imp.length = true from Nat.ble_eq_true_of_le (by omega), wrap1 (by omega), pre_getD p.imp hk]
      cases (p.imp.getD k default).nm.eq s.nm <;> rfl)
    (fun _ _ _ _ _ _ => trivial)
    (fun _ _ => by
      simp only [round7i]
      rw [decide_eq_false (by simp : ¬ Int.ofNat i < Int.ofNat i)]
      rfl)
    (pre p.imp i).length 0 () fuel (by rw [pre_length]; omega) trivial (by rw [pre_length]; exact hf)
  refine Eq.trans this ?_
  rw [iter_find (fun x : Sy => x.nm.eq s.nm) default]
  cases (pre p.imp i).findIdx? fun x => x.nm.eq s.nm <;> rfl
theorem loop7 (l : List Pk) (p x : Pk) (z w fuel : Nat) (hl : GoT.bnd l = true) (hp : GoT.bnd p = true) (hn : p.imp.length < 9223372036854775808) (hf : p.imp.length < fuel) :
    aloop (acode Tryd.prog C pol (toA kD7) 7 fuel (loopNo 0 e7.body)) (some [0, 3, 4, 5, 8]) 2 fuel (T7 l p z 0 0) (HD p w x) = match firstErr l p with
      | some (j, e) => some (.ret, T7 l p z e (.ofNat j), HD p w x)
      | none => some (.exit 0, T7 l p z 0 (.ofNat p.imp.length), HD p w x) := by
  have := loop_for (S := Unit) (kc := kD7) (P := Tryd.prog) (C := C) (pol := pol) (fid := 7) (fuel := fuel) (c := loopNo 0 e7.body) (l := [0, 3, 4, 5, 8]) (n := 2)
    (fun i _ => (T7 l p z 0 (.ofNat i), HD p w x)) (fun i _ => stepOf (stepErr l p i) fun e => (none, T7 l p z e (.ofNat i), HD p w x)) (fun _ => (some 0, T7 l p z 0 (.ofNat p.imp.length), HD p w x)) p.imp.length (fun _ _ => True)
    (fun i _ hi _ => by
      simp only [round7]
      rw [decide_eq_true (by exact Int.ofNat_lt.2 hi : Int.ofNat i < Int.ofNat p.imp.length), show i.blt p.imp.length = true from Nat.ble_eq_true_of_le hi, bnd_at hl hp, RA_eq, loop7i l p x (sAt p i) z w fuel i hi hn (by omega)]
      unfold stepErr
      cases symOk (sAt p i).pk.n (sAt p i).pk.c (sAt p i).nm.n with
      | false => rfl
      | true =>
        cases fHome (l, sAt p i, ()) with
        | false => rfl
        | true =>
          cases (pre p.imp i).findIdx? fun x => x.nm.eq (sAt p i).nm with
          | some j => rfl
          | none =>
            refine (next7 l p x (sAt p i) z w fuel (.ofNat i) (.ofNat i)).trans ?_
            rw [wrap1 (by omega)]
            rfl)
    (fun _ _ _ _ _ _ => trivial)
    (fun _ _ => by
      simp only [round7]
      rw [decide_eq_false (by simp : ¬ Int.ofNat p.imp.length < Int.ofNat p.imp.length)]
      rfl)
    p.imp.length 0 () fuel (by omega) trivial hf
  refine Eq.trans this ?_
  rw [iter_first (stepErr l p) (fun i e => ((none, T7 l p z e (.ofNat i), HD p w x) : LEnd))]
  unfold firstErr
  cases (List.range' 0 p.imp.length).findSome? fun j => (stepErr l p j).map fun e => (j, e) <;> rfl
end Go.Proofs.YtfddgmpgpnlppaaDoor.Tab
/- Define's error: the contracts of both sides. -/
set_option maxRecDepth 100000
namespace Go.Proofs.YtfddgmpgpnlppaaDoor.Tab
open Go Go.RowKit Go.Proofs.Ab

def rowF {T : Type} [GoT T] [Inhabited T] (l : List T) : List PV := (rowOf l.length fun i => toPV (l.getD i default)).reverse
theorem rowF_length {T : Type} [GoT T] [Inhabited T] (l : List T) : (rowF l).length = l.length := by simp [rowF, rowOf_length]
def room (n b : Nat) : Bool := Nat.ble ((2 * n + 768) * b) 281474976710656 && Nat.ble n 9223372036854775807
theorem room_ok {n b : Nat} (h : n ≤ 2000) (hb : b ≤ 100) : room n b = true := by
  unfold room
  rw [ble_dec, ble_dec]
  have : (2 * n + 768) * b ≤ (2 * 2000 + 768) * 100 := Nat.mul_le_mul (by omega) hb
  simp only [Bool.and_eq_true, decide_eq_true_eq]
  exact ⟨by omega, by omega⟩
/-! ### the reference's -/
def mk7 (n : Nat) : Bool := decide (0 ≤ IntKind.i64.wrap ((n : Int) + 1)) && (decide (IntKind.i64.wrap ((n : Int) + 1) ≤ 9223372036854775807) && decide (((40 : Nat) : Int) * IntKind.i64.wrap ((n : Int) + 1) ≤ 281474976710656))
theorem mk7_ok {n : Nat} (h : n ≤ 1000) : mk7 n = true := by
  have : IntKind.i64.wrap ((n : Int) + 1) = (n : Int) + 1 := by
    have := wrap1 (i := n) (by omega)
    simpa using this
  unfold mk7
  rw [this]
  simp only [Bool.and_eq_true, decide_eq_true_eq]
  omega
theorem end7a (y : Pk) (l : List Pk) (p x : Pk) (w fuel : Nat) (i : Int) : afterT Tryd.prog C pol kD7 7 fuel e7 1 RE (T7 (y :: l) p 0 0 i) (HD p w x) =
  kB (mk7 (y :: l).length)
    (kB (room (0 + (y :: l).length) 40)
      (kB (Nat.beq (0 + (y :: l).length) (rowF (y :: l) ++ []).length && room ((rowF (y :: l) ++ []).reverse.length + 1) 40) (some (er 0)) none) none) none := by kernel_rfl
theorem end7b (p x : Pk) (w fuel : Nat) (i : Int) : afterT Tryd.prog C pol kD7 7 fuel e7 1 RE (T7 [] p 0 0 i) (HD p w x) = some (er 0) := by kernel_rfl
theorem end7c (p x : Pk) (w fuel : Nat) (i : Int) : afterT Tryd.prog C pol kD7 7 fuel e7 1 RE (T7 [] p 1 0 i) (HD p w x) = some (er 0) := by kernel_rfl
theorem end7 {l : List Pk} {p : Pk} (hl : l.length ≤ 1000) {z : Nat} (hz : z = 0 ∨ (z = 1 ∧ l = [])) (x : Pk) (w fuel : Nat) (i : Int) : afterT Tryd.prog C pol kD7 7 fuel e7 1 RE (T7 l p z 0 i) (HD p w x) = some (er 0) := by
  rcases hz with rfl | ⟨rfl, rfl⟩
  · cases l with
    | nil => exact end7b p x w fuel i
    | cons y l =>
      have e1 : (rowF (y :: l) ++ []).length = (y :: l).length := by simp [rowF_length]
      rw [end7a, mk7_ok hl, room_ok (by omega) (by omega), List.length_reverse, e1, room_ok (by omega) (by omega), Nat.zero_add, Nat.beq_refl]
      rfl
  · exact end7c p x w fuel i
def cD (a : List Pk × Pk × Unit) : Bool := GoA.bnd a && Nat.ble a.1.length 1000
theorem c7_ok : CallOk Tryd.prog (toA (tspec 7 cD fDef)) := by
  refine tspec_okTV C_ok (pol := pol) kD7_ok (e := e7) (by kernel_rfl) fun a ha M vs hv => ?_
  obtain ⟨l, p, ⟨⟩⟩ := a
  simp only [cD, bnd_arg, Bool.and_eq_true] at ha
  obtain ⟨⟨hl, hp, _⟩, hlen⟩ := ha
  have hlen := Nat.le_of_ble_eq_true hlen
  simp only [GoA.enc, PRs] at hv
  obtain ⟨v1, _, rfl, h1, v2, _, rfl, h2, rfl⟩ := hv
  obtain ⟨z, hz, k1⟩ := row_split h1
  refine ⟨[rowZ z l, pkZ p 2], by simp only [PRs]; exact ⟨v1, _, rfl, k1, v2, _, rfl, h2, rfl⟩, p.imp.length + 1, ?_⟩
  have hp' : (GoT.bnd p.name && GoT.bnd p.imp) = true := hp
  simp only [Bool.and_eq_true] at hp'
  have hn := small_lt (bnd_small hp'.2)
  show kbodyT Tryd.prog C pol kD7 7 (p.imp.length + 1) e7 RE [.p (rowZ z l), .p (pkZ p 2)] ⟨[],[]⟩ = _
  have hc : tcond (A := List Pk × Str × Unit) (l, p.name, ()) = true := by simp only [tcond_eq, bnd_arg, Bool.and_eq_true]; exact ⟨hl, hp'.1, rfl⟩
  rw [body7, hc, RA_eq]
  unfold fDef
  simp only
  cases pkgName p.name.n p.name.c with
  | false => rfl
  | true =>
    cases (fFind (l, p.name, ())).b with
    | true => rfl
    | false =>
      cases decide ((p.imp.length : Int) > 200) with
      | true => rfl
      | false =>
        simp only [Bool.not_true, kB_true, kB_false]
        have hloop := loop7 l p (fFind (l, p.name, ())).a z 2 (p.imp.length + 1) hl hp hn (Nat.lt_succ_self _)
        show onA (aloop (acode Tryd.prog C pol (toA kD7) 7 (p.imp.length + 1) (loopNo 0 e7.body)) (some [0, 3, 4, 5, 8]) 2 (p.imp.length + 1) (T7 l p z 0 0) (HD p 2 (fFind (l, p.name, ())).a)) _ _ _ = _
        rw [hloop]
        cases firstErr l p with
        | none => exact end7 hlen hz _ 2 (p.imp.length + 1) (.ofNat p.imp.length)
        | some q => exact ret7 l p (fFind (l, p.name, ())).a z 2 q.2 (.ofNat q.1)

/-! ### the implementation's -/
def cl (n b : Nat) : Bool := room (0 + (n + 1)) b
theorem end6a (y : Pk) (l : List Pk) (nm : Str) (s : Sy) (im : List Sy) (x : Pk) (fuel : Nat) (i : Int) : afterT Tryd.prog C pol kD6 6 fuel e6 1 RE (T6 (y :: l) ⟨nm, s :: im⟩ 0 0 0 i) (HD ⟨nm, s :: im⟩ 0 x) =
  kB (cl im.length 32)
    (kB (cl l.length 40 && (Nat.beq (0 + (l.length + 1)) (rowF (y :: l)).length && true))
      (kB (Nat.beq (0 + (l.length + 1)) (rowF (y :: l)).length && room ((rowF (y :: l)).reverse.length + 1) 40) (some (er 0)) none) none) none := by kernel_rfl
theorem end6b (nm : Str) (s : Sy) (im : List Sy) (x : Pk) (fuel : Nat) (i : Int) : afterT Tryd.prog C pol kD6 6 fuel e6 1 RE (T6 [] ⟨nm, s :: im⟩ 0 0 0 i) (HD ⟨nm, s :: im⟩ 0 x) = kB (cl im.length 32) (some (er 0)) none := by kernel_rfl
theorem end6c (nm : Str) (s : Sy) (im : List Sy) (x : Pk) (fuel : Nat) (i : Int) : afterT Tryd.prog C pol kD6 6 fuel e6 1 RE (T6 [] ⟨nm, s :: im⟩ 1 0 0 i) (HD ⟨nm, s :: im⟩ 0 x) = kB (cl im.length 32) (some (er 0)) none := by kernel_rfl
theorem end6d (y : Pk) (l : List Pk) (nm : Str) (x : Pk) (fuel : Nat) (i : Int) : afterT Tryd.prog C pol kD6 6 fuel e6 1 RE (T6 (y :: l) ⟨nm, []⟩ 0 0 0 i) (HD ⟨nm, []⟩ 0 x) =
    (kB (cl l.length 40 && (Nat.beq (0 + (l.length + 1)) (rowF (y :: l)).length && true))
      (kB (Nat.beq (0 + (l.length + 1)) (rowF (y :: l)).length && room ((rowF (y :: l)).reverse.length + 1) 40) (some (er 0)) none) none) := by kernel_rfl
theorem end6e (y : Pk) (l : List Pk) (nm : Str) (x : Pk) (fuel : Nat) (i : Int) : afterT Tryd.prog C pol kD6 6 fuel e6 1 RE (T6 (y :: l) ⟨nm, []⟩ 0 1 0 i) (HD ⟨nm, []⟩ 1 x) =
    (kB (cl l.length 40 && (Nat.beq (0 + (l.length + 1)) (rowF (y :: l)).length && true))
      (kB (Nat.beq (0 + (l.length + 1)) (rowF (y :: l)).length && room ((rowF (y :: l)).reverse.length + 1) 40) (some (er 0)) none) none) := by kernel_rfl
theorem end6f (nm : Str) (x : Pk) (fuel : Nat) (i : Int) : afterT Tryd.prog C pol kD6 6 fuel e6 1 RE (T6 [] ⟨nm, []⟩ 0 0 0 i) (HD ⟨nm, []⟩ 0 x) = some (er 0) := by kernel_rfl
theorem end6g (nm : Str) (x : Pk) (fuel : Nat) (i : Int) : afterT Tryd.prog C pol kD6 6 fuel e6 1 RE (T6 [] ⟨nm, []⟩ 0 1 0 i) (HD ⟨nm, []⟩ 1 x) = some (er 0) := by kernel_rfl
theorem end6h (nm : Str) (x : Pk) (fuel : Nat) (i : Int) : afterT Tryd.prog C pol kD6 6 fuel e6 1 RE (T6 [] ⟨nm, []⟩ 1 0 0 i) (HD ⟨nm, []⟩ 0 x) = some (er 0) := by kernel_rfl
theorem end6i (nm : Str) (x : Pk) (fuel : Nat) (i : Int) : afterT Tryd.prog C pol kD6 6 fuel e6 1 RE (T6 [] ⟨nm, []⟩ 1 1 0 i) (HD ⟨nm, []⟩ 1 x) = some (er 0) := by kernel_rfl
theorem end6 {l : List Pk} {p : Pk} (hl : l.length ≤ 1000) (hp : p.imp.length ≤ 200) {z w : Nat} (hz : z = 0 ∨ (z = 1 ∧ l = [])) (hw : w = 0 ∨ (w = 1 ∧ p.imp = [])) (x : Pk) (fuel : Nat) (i : Int) : afterT Tryd.prog C pol kD6 6 fuel e6 1 RE (T6 l p z w 0 i) (HD p w x) = some (er 0) := by
  obtain ⟨nm, im⟩ := p
  simp only at hp hw
  have rows : ∀ (y : Pk) (l : List Pk), (y :: l).length ≤ 1000 → (kB (cl l.length 40 && (Nat.beq (0 + (l.length + 1)) (rowF (y :: l)).length && true))
      (kB (Nat.beq (0 + (l.length + 1)) (rowF (y :: l)).length && room ((rowF (y :: l)).reverse.length + 1) 40) (some (er 0)) none) none) = some (er 0) := by
    intro y l h
    simp only [List.length_cons] at h
    rw [cl, room_ok (by omega) (by omega), List.length_reverse, rowF_length, List.length_cons, room_ok (by omega) (by omega), Nat.zero_add, Nat.beq_refl]
    rfl
  have imps : ∀ (s : Sy) (im : List Sy), (s :: im).length ≤ 200 → cl im.length 32 = true := by
    intro s im h
    simp only [List.length_cons] at h
    exact room_ok (by omega) (by omega)
  rcases hz with rfl | ⟨rfl, rfl⟩ <;> rcases hw with rfl | ⟨rfl, rfl⟩
  · cases l with
    | nil => cases im with
      | nil => exact end6f nm x fuel i
      | cons s im => rw [end6b, imps s im hp]; rfl
    | cons y l => cases im with
      | nil => rw [end6d, rows y l hl]
      | cons s im => rw [end6a, imps s im hp, rows y l hl]; rfl
  · cases l with
    | nil => exact end6g nm x fuel i
    | cons y l => rw [end6e, rows y l hl]
  · cases im with
    | nil => exact end6h nm x fuel i
    | cons s im => rw [end6c, imps s im hp]; rfl
  · exact end6i nm x fuel i
theorem c6_ok : CallOk Tryd.prog (toA (tspec 6 cD fDef)) := by
  refine tspec_okTV C_ok (pol := pol) kD6_ok (e := e6) (by kernel_rfl) fun a ha M vs hv => ?_
  obtain ⟨l, p, ⟨⟩⟩ := a
  simp only [cD, bnd_arg, Bool.and_eq_true] at ha
  obtain ⟨⟨hl, hp, _⟩, hlen⟩ := ha
  have hlen := Nat.le_of_ble_eq_true hlen
  simp only [GoA.enc, PRs] at hv
  obtain ⟨v1, _, rfl, h1, v2, _, rfl, h2, rfl⟩ := hv
  obtain ⟨z, hz, k1⟩ := row_split h1
  have h2 : PR M (.ag [toPV p.name, toPV p.imp]) v2 := h2
  simp only [PR, PRs] at h2
  obtain ⟨us, rfl, u1, us1, e1, h3, u2, us2, rfl, h4, rfl⟩ := h2
  obtain ⟨w, hw, k2⟩ := row_split h4
  refine ⟨[rowZ z l, pkZ p w], by simp only [PRs, pkZ, PR]; exact ⟨v1, _, rfl, k1, _, _, rfl, ⟨us, rfl, u1, _, e1, h3, u2, _, rfl, k2, rfl⟩, rfl⟩, p.imp.length + 1, ?_⟩
  have hp' : (GoT.bnd p.name && GoT.bnd p.imp) = true := hp
  simp only [Bool.and_eq_true] at hp'
  have hn := small_lt (bnd_small hp'.2)
  show kbodyT Tryd.prog C pol kD6 6 (p.imp.length + 1) e6 RE [.p (rowZ z l), .p (pkZ p w)] ⟨[],[]⟩ = _
  have hc : tcond (A := List Pk × Str × Unit) (l, p.name, ()) = true := by simp only [tcond_eq, bnd_arg, Bool.and_eq_true]; exact ⟨hl, hp'.1, rfl⟩
  rw [body6, hc, RA_eq]
  unfold fDef
  simp only
  cases pkgName p.name.n p.name.c with
  | false => rfl
  | true =>
    cases (fFind (l, p.name, ())).b with
    | true => rfl
    | false =>
      cases h200 : decide ((p.imp.length : Int) > 200) with
      | true => rfl
      | false =>
        have h200 : p.imp.length ≤ 200 := by have := of_decide_eq_false h200; omega
        simp only [Bool.not_true, kB_true, kB_false]
        have hloop := loop6 l p (fFind (l, p.name, ())).a z w (p.imp.length + 1) hl hp hn (Nat.lt_succ_self _)
        show onA (aloop (acode Tryd.prog C pol (toA kD6) 6 (p.imp.length + 1) (loopNo 0 e6.body)) (some [0, 3, 4, 5, 28, 29, 30]) 2 (p.imp.length + 1) (T6 l p z w 0 0) (HD p w (fFind (l, p.name, ())).a)) _ _ _ = _
        rw [hloop]
        cases firstErr l p with
        | none => exact end6 hlen h200 hz hw _ (p.imp.length + 1) (.ofNat p.imp.length)
        | some q => exact ret6 l p (fFind (l, p.name, ())).a z w q.2 (.ofNat q.1)
end Go.Proofs.YtfddgmpgpnlppaaDoor.Tab
/- From a law's arguments to typed values; from contracts to the law's walk. -/
namespace Go.Proofs.Ab
open Go Go.RowKit Go.ChangeShapes Go.WideShapes Go.ChangeAt

/-- All cells that are one cell. -/
def memOf (W : World) : Mem := fun a => match W.cell? a with
  | some v => if v.oneCell' = true then some v else none
  | none => none
theorem memOf_some {W : World} {a : Addr} {v : Value} : memOf W a = some v ↔ W.cell? a = some v ∧ v.oneCell' = true := by
  unfold memOf
  cases W.cell? a with
  | none => simp
  | some u =>
    by_cases h : u.oneCell' = true
    · simp only [h, if_true, Option.some.injEq]
      constructor
      · rintro rfl; exact ⟨rfl, h⟩
      · exact fun k => k.1
    · simp only [h]
      constructor
      · intro k; cases k
      · rintro ⟨k1, k2⟩
        injection k1 with k1
        subst k1
        exact absurd k2 h
def Γ0 (W : World) : G := { base := W.heap.size, nH := 0, nK := 0, M := memOf W, φ := fun _ => none, τ := fun _ _ => none }
theorem rel0 (W : World) : Rel (Γ0 W) ⟨[], []⟩ W where
  nH := rfl
  nK := rfl
  base := Nat.le_refl _
  mem a v h := (memOf_some.1 h).1
  bx id b h := by exact absurd h (Nat.not_lt_zero _)
  inj i j b h := by exact absurd h (Nat.not_lt_zero _)
  tk k n E a cap h := by simp at h
  tinj k k' n n' E E' a a' cap cap' _ h := by simp at h
  tn k n E m h := by simp at h
  one a v h := (memOf_some.1 h).2
/-- A walk that returns true. -/
theorem walk_true {P : Program} {call : ACall} (hc : CallOk P call) {f : FuncId} {xs : List PV} (h : call f (xs.map .p) ⟨[], []⟩ = some (.p (.sc (.bool true)), ⟨[], []⟩)) {W : World} {rs : List Value} (hx : PRs (memOf W) xs rs) :
    Calls P f rs.toArray W fun e w' => e = .returned (.bool true) ∧ Below W.heap.size W w' := by
  refine (hc f _ _ _ _ h (Γ0 W) W rs (rel0 W) (PRs.toVRs (Γ := Γ0 W) hx)).2.mono fun e w' ⟨u, Γ', he, s, r, k⟩ => ?_
  simp only [VR, PR] at k
  subst k
  exact ⟨he, s.below⟩

/-! ### Reading the arguments -/
section
variable (P : Program)
/-- What reads as data of a type is a typed value. -/
def Reads (t : TypeId) (T : Type) [GoT T] : Prop := ∀ (H : Type) (enc : TypeId × Value → H) (W : World) (fuel : Nat) (cs : List Value) (d : DataW H) (ps : List MemPlace),
  DataW.trod enc P W 0 (fun _ => true) true fuel t cs = some (d, ps) → ∃ x : T, GoT.bnd x = true ∧ PRs (memOf W) (GoT.cells x) cs
variable {P}
theorem reads_int {t : TypeId} (hu : P.underlying t = some (.int .i64)) : Reads P t Int := by
  intro H enc W fuel cs d ps h
  cases fuel with
  | zero => cases h
  | succ fuel =>
    obtain ⟨n, rfl, _, hw⟩ := DataW.trod_int hu h
    refine ⟨n, ?_, ?_⟩
    · simp only [Lit.wf, Bool.and_eq_true, decide_eq_true_eq] at hw
      show (decide (-9223372036854775808 ≤ n) && decide (n < 9223372036854775808)) = true
      have h1 : IntKind.i64.min = -9223372036854775808 := rfl
      have h2 : IntKind.i64.max = 9223372036854775807 := rfl
      rw [h1, h2] at hw
      simp only [Bool.and_eq_true, decide_eq_true_eq]
      omega
    · show PRs (memOf W) [.sc (.int .i64 n)] _
      simp [PRs, PR]
theorem reads_bool {t : TypeId} (hu : P.underlying t = some .bool) : Reads P t Bool := by
  intro H enc W fuel cs d ps h
  cases fuel with
  | zero => cases h
  | succ fuel =>
    obtain ⟨b, rfl, _⟩ := DataW.trod_bool hu h
    refine ⟨b, rfl, ?_⟩
    show PRs (memOf W) [.sc (.bool b)] _
    simp [PRs, PR]
theorem reads_str {t : TypeId} (hu : P.underlying t = some .string) : Reads P t Str := by
  intro H enc W fuel cs d ps h
  cases fuel with
  | zero => cases h
  | succ fuel =>
    obtain ⟨s, rfl, _, hm⟩ := DataW.trod_string hu h
    refine ⟨⟨s.data.toList.length, encL s.data.toList⟩, ?_, ?_⟩
    · show Nat.blt s.data.toList.length 9223372036854775808 = true
      have : s.size ≤ 9223372036854775807 := hm
      exact Nat.ble_eq_true_of_le (by simp only [Array.length_toList]; simp only [ByteArray.size] at this; omega)
    · show PRs (memOf W) [.st _ _] _
      simp only [PRs, PR, List.cons.injEq, and_true]
      refine ⟨_, [], ⟨rfl, rfl⟩, ⟨encL_lt _, ?_⟩, rfl⟩
      congr 1
      unfold dec
      rw [decL_encL]
theorem PRcells.of_read {W : World} : ∀ (xs : List PV) (cs : List Value) (a : Addr) (n : Nat), (∀ x ∈ xs, x.flat1 = true) → PRs (memOf W) xs cs → (∀ i, i < cs.length → W.cell? (a.add (n + i)) = cs[i]?) → PRcells (memOf W) xs a n
  | [], cs, a, n, hf, h, hc => trivial
  | x :: xs, cs, a, n, hf, h, hc => by
    simp only [PRs] at h
    obtain ⟨v, vs, rfl, h1, h2⟩ := h
    simp only [PRcells]
    have hx := hf x (by simp)
    have h0 := hc 0 (by simp)
    simp only [Nat.add_zero, List.getElem?_cons_zero] at h0
    refine ⟨⟨v, memOf_some.2 ⟨h0, ?_⟩, h1⟩, PRcells.of_read xs vs a (n + 1) (fun y hy => hf y (by simp [hy])) h2 fun i hi => ?_⟩
    · cases x with
      | ag cs => cases hx
      | sc u => simp only [PR] at h1; subst h1; exact hx
      | st l c => simp only [PR] at h1; obtain ⟨_, rfl⟩ := h1; rfl
      | tr E xs => simp only [PR] at h1; obtain ⟨a, cap, rfl, _⟩ := h1; rfl
      | fr z E k f =>
        simp only [PR] at h1
        rcases h1 with ⟨_, rfl, _⟩ | ⟨_, a, cap, rfl, _⟩ <;> rfl
    · have := hc (i + 1) (by simpa using hi)
      rw [show n + 1 + i = n + (i + 1) by omega]
      simpa using this
theorem choose_list {T : Type} [Inhabited T] (p : Nat → T → Prop) : ∀ n : Nat, (∀ i, i < n → ∃ x, p i x) → ∃ l : List T, l.length = n ∧ ∀ i, i < n → p i (l.getD i default)
  | 0, h => ⟨[], rfl, fun i hi => absurd hi (Nat.not_lt_zero _)⟩
  | n + 1, h => by
    obtain ⟨l, hl, hp⟩ := choose_list p n fun i hi => h i (by omega)
    obtain ⟨x, hx⟩ := h n (by omega)
    refine ⟨l ++ [x], by simp [hl], fun i hi => ?_⟩
    by_cases hin : i < n
    · have : (l ++ [x]).getD i default = l.getD i default := by simp [List.getD_eq_getElem?_getD, List.getElem?_append_left (show i < l.length by omega)]
      rw [this]
      exact hp i hin
    · have : i = n := by omega
      subst this
      have : (l ++ [x]).getD i default = x := by simp [List.getD_eq_getElem?_getD, hl]
      rw [this]
      exact hx
theorem reads_row {t e : TypeId} {T : Type} [GoT T] [Inhabited T] (hu : P.underlying t = some (.slice e)) (he : Reads P e T) (hc : P.cellsOf e = GoT.E T) : Reads P t (List T) := by
  intro H enc W fuel cs d ps h
  rcases DataW.trod_slice hu h with ⟨rfl, _⟩ | ⟨a, len, cap, elems, rest, n, rfl, rfl, _, _, hl, hm, hel, hat, _⟩
  · refine ⟨[], rfl, ?_⟩
    show PRs (memOf W) [encRow ([] : List T)] _
    simp only [PRs, encRow, PR]
    exact ⟨_, [], rfl, .inl ⟨by decide, rfl, rfl⟩, rfl⟩
  · obtain ⟨l, hll, hp⟩ := choose_list (fun i (x : T) => GoT.bnd x = true ∧ PRcells (memOf W) (GoT.cells x) a (i * P.cellsOf e)) len fun i hi => by
      have h1 := hat i hi
      have h2 : ∃ y, elems[i]? = some y := ⟨elems[i]'(by omega), by simp⟩
      obtain ⟨y, hy⟩ := h2
      rw [hy, Option.bind_eq_some_iff] at h1
      obtain ⟨ce, hce, htr⟩ := h1
      obtain ⟨dy, py⟩ := y
      obtain ⟨x, hx, hpr⟩ := he H enc W n ce dy py htr
      obtain ⟨_, hcl, hcell⟩ := World.cells?_some hce
      refine ⟨x, hx, PRcells.of_read _ ce a (i * P.cellsOf e) (GoT.flat x) hpr fun j hj => ?_⟩
      have := hcell j (by omega)
      rwa [add_add] at this
    refine ⟨l, ?_, ?_⟩
    · show (Nat.blt l.length 9223372036854775808 && l.all GoT.bnd) = true
      simp only [Bool.and_eq_true]
      refine ⟨Nat.ble_eq_true_of_le ?_, List.all_eq_true.2 fun x hx => ?_⟩
      · have : maxLen = 9223372036854775807 := rfl
        omega
      · obtain ⟨i, hi, rfl⟩ := List.mem_iff_getElem.1 hx
        have := (hp i (by omega)).1
        simpa [hi] using this
    · show PRs (memOf W) [encRow l] _
      simp only [PRs, encRow, PR]
      refine ⟨_, [], rfl, .inr ⟨by decide, a, cap, by rw [hll], by omega, fun i hi => ?_⟩, rfl⟩
      refine PRelem.of_cells' ?_ ?_
      · rw [(cells_toPV _).1, GoT.len]
      · rw [(cells_toPV _).1, ← hc]
        exact (hp i (by omega)).2
/-- Some fields, one after another. -/
def ReadsF (fs : List Field) (off : Nat) (T : Type) [GoT T] : Prop := ∀ (H : Type) (enc : TypeId × Value → H) (W : World) (fuel : Nat) (cs : List Value), off + GoT.E T ≤ cs.length →
  (∀ f, f ∈ fs → ∃ y, DataW.trod enc P W 0 (fun _ => true) true fuel f.type ((cs.drop f.offset).take (P.cellsOf f.type)) = some y) → ∃ x : T, GoT.bnd x = true ∧ PRs (memOf W) (GoT.cells x) ((cs.drop off).take (GoT.E T))
theorem readsF_one {f : Field} {off : Nat} {T : Type} [GoT T] (h : Reads P f.type T) (ho : f.offset = off) (hc : P.cellsOf f.type = GoT.E T) : ReadsF (P := P) [f] off T := by
  intro H enc W fuel cs hl hf
  obtain ⟨⟨d, ps⟩, hy⟩ := hf f (by simp)
  rw [ho, hc] at hy
  exact h H enc W fuel _ d ps hy
theorem readsF_cons {f : Field} {fs : List Field} {off : Nat} {A B : Type} [GoT A] [GoT B] (h : Reads P f.type A) (ho : f.offset = off) (hc : P.cellsOf f.type = GoT.E A) (hs : ReadsF (P := P) fs (off + GoT.E A) B) : ReadsF (P := P) (f :: fs) off (A × B) := by
  intro H enc W fuel cs hl hf
  have hE : GoT.E (A × B) = GoT.E A + GoT.E B := rfl
  rw [hE] at hl
  obtain ⟨⟨d, ps⟩, hy⟩ := hf f (by simp)
  rw [ho, hc] at hy
  obtain ⟨x, hx, kx⟩ := h H enc W fuel _ d ps hy
  obtain ⟨y, hy, ky⟩ := hs H enc W fuel cs (by omega) fun g hg => hf g (by simp [hg])
  refine ⟨(x, y), ?_, ?_⟩
  · show (GoT.bnd x && GoT.bnd y) = true
    rw [hx, hy]
    rfl
  · show PRs (memOf W) (GoT.cells x ++ GoT.cells y) _
    rw [hE, List.take_add, List.drop_drop]
    exact PRs.app.2 ⟨_, _, rfl, kx, ky⟩
theorem reads_struct {t : TypeId} {fs : Array Field} {S T : Type} [GoT T] {f : S → T} {g : T → S} {hfg : ∀ t, f (g t) = t} {hgf : ∀ s, g (f s) = s} (hu : P.underlying t = some (.struct fs)) (hs : ReadsF (P := P) fs.toList 0 T) (hc : P.cellsOf t = GoT.E T) :
    @Reads P t S (GoT.iso f g hfg hgf) := by
  intro H enc W fuel cs d ps h
  obtain ⟨xs, n, rfl, _, hl, hx, hat⟩ := DataW.trod_struct hu h
  obtain ⟨x, hb, k⟩ := hs H enc W n cs (by omega) fun fd hfd => by
    obtain ⟨i, hi, rfl⟩ := List.mem_iff_getElem.1 hfd
    have h1 := hat i (fs.toList[i]) (by simp at hi; simp [hi])
    have h2 : ∃ y, xs[i]? = some y := ⟨xs[i]'(by simp at hi; omega), by simp⟩
    obtain ⟨y, hy⟩ := h2
    rw [hy] at h1
    exact ⟨y, h1⟩
  refine ⟨g x, ?_, ?_⟩
  · show GoT.bnd (f (g x)) = true
    rw [hfg]
    exact hb
  · show PRs (memOf W) (GoT.cells (f (g x))) _
    rw [hfg]
    rw [List.drop_zero, List.take_of_length_le (by omega)] at k
    exact k
/-- An argument. -/
theorem reads_arg {t : TypeId} {T : Type} [GoT T] (h : Reads P t T) {H : Type} {enc : TypeId × Value → H} {W : World} {v : Value} {d : DataW H} {ps : List MemPlace} (hd : DataW.Trod enc P W 0 (fun _ => true) true t v d ps)
    (hv : match GoT.ag T with | true => ∃ vs, v = .agg vs | false => v.cells = #[v]) : ∃ x : T, GoT.bnd x = true ∧ PR (memOf W) (toPV x) v := by
  obtain ⟨fuel, hf⟩ := hd
  obtain ⟨x, hb, k⟩ := h H enc W fuel _ d ps hf
  refine ⟨x, hb, PR_cells.2 ?_⟩
  rw [(cells_toPV x).1, (cells_toPV x).2]
  cases hag : GoT.ag T with
  | true =>
    rw [hag] at hv
    obtain ⟨vs, rfl⟩ := hv
    exact .inl ⟨vs, rfl, rfl, k⟩
  | false =>
    rw [hag] at hv
    have hv : v.cells = #[v] := hv
    rw [hv] at k
    exact .inr ⟨rfl, k⟩
end
end Go.Proofs.Ab
/- SymbolRaw: its walk. -/
set_option maxRecDepth 100000
namespace Go.Proofs.YtfddgmpgpnlppaaDoor.Tab
open Go Go.RowKit Go.Proofs.Ab

theorem first_run (st : St) : run 60 4 [] st = some (BV true, st) := by kernel_rfl
noncomputable def kL : KCall := orK (constK 4 (BV true)) (orK (tspec 5 (GoA.bnd (A := List Pk × Unit)) fFew) (orK (tspec 6 cD fDef) (tspec 7 cD fDef)))
theorem kL_ok : CallOk Tryd.prog (toA kL) := orK_ok (constK_ok (run_ok 60) first_run) (orK_ok c5_ok (orK_ok c6_ok c7_ok))
theorem body3 (l : List Pk) (p : Pk) (fuel : Nat) : kbodyT Tryd.prog C pol kL 3 fuel e3 Bool [.p (toPV l), .p (toPV p)] ⟨[],[]⟩ =
  kB (tcond (l, ()))
    (kB (!fFew (RA (l, ()))) (some true)
      (kB (decide ((p.imp.length : Int) > 8)) (some true)
        (kB (tcondC cD (l, p, ()))
          (kB (tcondC cD (l, p, ())) (some ((fDef (RA (l, p, ()))).b == (fDef (RA (l, p, ()))).b)) none) none)))
    none := by kernel_rfl
theorem c3_ok : CallOk Tryd.prog (toA (tspec 3 (GoA.bnd (A := List Pk × Pk × Unit)) fun _ => true)) := by
  refine tspec_okT C_ok (pol := pol) kL_ok (e := e3) (by kernel_rfl) fun a ha => ⟨0, ?_⟩
  obtain ⟨l, p, ⟨⟩⟩ := a
  show kbodyT Tryd.prog C pol kL 3 0 e3 Bool [.p (toPV l), .p (toPV p)] ⟨[],[]⟩ = _
  rw [body3, tcond_eq, tcondC_eq, RA_eq, RA_eq]
  have hb := ha
  simp only [bnd_arg, Bool.and_eq_true] at ha
  rw [show GoA.bnd (l, ()) = true by simp only [bnd_arg, Bool.and_eq_true]; exact ⟨ha.1, rfl⟩]
  cases hf : fFew (l, ()) with
  | false => rfl
  | true =>
    cases decide ((p.imp.length : Int) > 8) with
    | true => rfl
    | false =>
      have hc : cD (l, p, ()) = true := by
        unfold cD
        rw [hb]
        unfold fFew at hf
        simp only [Bool.and_eq_true, Bool.not_eq_true', decide_eq_false_iff_not] at hf
        exact Nat.ble_eq_true_of_le (show l.length ≤ 1000 by have := hf.1; omega)
      rw [hc]
      simp only [Bool.not_true, kB_true, kB_false, beq_self_eq_true]

/-! ### The arguments -/
theorem reads_sy : Reads Tryd.prog 33 Sy := reads_struct (g := fun p => ⟨p.1, p.2⟩) (hfg := fun _ => rfl) (hgf := fun _ => rfl) Tryd.underlying33 (readsF_cons (reads_str Tryd.underlying9) rfl (by kernel_rfl) (readsF_one (reads_str Tryd.underlying9) rfl (by kernel_rfl))) (by kernel_rfl)
theorem reads_pk : Reads Tryd.prog 25 Pk := reads_struct (g := fun p => ⟨p.1, p.2⟩) (hfg := fun _ => rfl) (hgf := fun _ => rfl) Tryd.underlying25 (readsF_cons (reads_str Tryd.underlying9) rfl (by kernel_rfl) (readsF_one (reads_row Tryd.underlying23 reads_sy (by kernel_rfl)) rfl (by kernel_rfl))) (by kernel_rfl)
theorem reads_l : Reads Tryd.prog 22 (List Pk) := reads_row Tryd.underlying22 reads_pk (by kernel_rfl)
theorem walk {W : World} {l : List Pk} {p : Pk} {v0 v1 : Value} (hl : GoT.bnd l = true) (hp : GoT.bnd p = true) (h0 : PR (memOf W) (toPV l) v0) (h1 : PR (memOf W) (toPV p) v1) :
    Calls Tryd.prog 3 #[v0, v1] W fun e w' => e = .returned (.bool true) ∧ Below W.heap.size W w' := by
  refine walk_true c3_ok (xs := [toPV l, toPV p]) ?_ (rs := [v0, v1]) (by simp only [PRs]; exact ⟨v0, _, rfl, h0, v1, _, rfl, h1, rfl⟩)
  have hb : tcond (A := List Pk × Pk × Unit) (l, p, ()) = true := by rw [tcond_eq]; simp only [bnd_arg, Bool.and_eq_true]; exact ⟨hl, hp, rfl⟩
  have : toA (tspec 3 (GoA.bnd (A := List Pk × Pk × Unit)) fun _ => true) 3 ([toPV l, toPV p].map .p) ⟨[], []⟩ = bif tcond (A := List Pk × Pk × Unit) (l, p, ()) then some (.p (.sc (.bool true)), ⟨[], []⟩) else none := rfl
  rw [this, hb]
  rfl
end Go.Proofs.YtfddgmpgpnlppaaDoor.Tab
