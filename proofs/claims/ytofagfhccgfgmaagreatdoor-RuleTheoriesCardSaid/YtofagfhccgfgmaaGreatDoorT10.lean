/- The law RuleTheories of chapter 28 returns true for every list of lists of bytes, and leaves its argument as it was; no conditions but those of the row. Part 10 of 13. -/
import Derived.Test.YtofagfhccgfgmaaGreatDoorT9
import Derived.Test.YtofagfhccgfgmaaGreatDoorCards
import Derived.Test.YtofagfhccgfgmaaGreatDoorTie
import Derived.WalkKit
import Derived.ProofKit
import Derived.OpenShut
import Derived.ChangeOld
import Derived.Below
import Derived.Carry
import Derived.Lay
import Derived.Deep.DeepHandedRow
import Derived.Deep.DeepWitnessRowRef
set_option linter.unusedVariables false
set_option linter.unusedSimpArgs false
/- RuleTheories: the row's contract. -/
set_option maxRecDepth 1000000
namespace Go.Proofs.YtofagfhccgfgmaaGreatDoor.ruleTheories
open Go Go.ChangeShapes Go.WideShapes Go.ChangeAt Go.RowKit Go.Proofs.Ab Go.Proofs.YtofagfhccgfgmaaGreatDoor.Wo
theorem reads_byte : Reads Tryz.prog 5 U8 := by
  intro H enc W fuel cs d ps h
  cases fuel with
  | zero => cases h
  | succ fuel =>
    obtain ⟨n, rfl, _, hw⟩ := DataW.trod_int Tryz.underlying5 h
    refine ⟨⟨n⟩, ?_, ?_⟩
    · simp only [Lit.wf, Bool.and_eq_true, decide_eq_true_eq] at hw
      show (decide (0 ≤ n) && decide (n < 256)) = true
      have h1 : IntKind.u8.min = 0 := rfl
      have h2 : IntKind.u8.max = 255 := rfl
      rw [h1, h2] at hw
      simp only [Bool.and_eq_true, decide_eq_true_eq]
      omega
    · show PRs (memOf W) [.sc (.int .u8 n)] _
      simp [PRs, PR]
theorem reads_l : Reads Tryz.prog 65 (List (List U8)) := reads_row Tryz.underlying65 (reads_row Tryz.underlying66 reads_byte (by kernel_rfl)) (by kernel_rfl)
def nums (l : List (List U8)) : List (List Nat) := l.map fun r => r.map fun x => x.v.toNat
theorem nums_lt {l : List (List U8)} (h : GoT.bnd l = true) : ∀ r ∈ nums l, ∀ b ∈ r, b < 256 := by
  intro r hr b hb
  obtain ⟨r', hr', rfl⟩ := List.mem_map.1 hr
  obtain ⟨x, hx, rfl⟩ := List.mem_map.1 hb
  have h : (Nat.blt l.length 9223372036854775808 && l.all GoT.bnd) = true := h
  rw [Bool.and_eq_true, List.all_eq_true] at h
  have h1 : (Nat.blt r'.length 9223372036854775808 && r'.all GoT.bnd) = true := h.2 r' hr'
  rw [Bool.and_eq_true, List.all_eq_true] at h1
  have h2 : (decide (0 ≤ x.v) && decide (x.v < 256)) = true := h1.2 x hx
  simp only [Bool.and_eq_true, decide_eq_true_eq] at h2
  omega
theorem nums_eq {l : List (List U8)} (h : GoT.bnd l = true) : toPV l = BR (nums l) := by
  have h : (Nat.blt l.length 9223372036854775808 && l.all GoT.bnd) = true := h
  rw [Bool.and_eq_true, List.all_eq_true] at h
  have key : ∀ r : List U8, GoT.bnd r = true → encRow r = BI (r.map fun x => x.v.toNat) := by
    intro r h
    have h : (Nat.blt r.length 9223372036854775808 && r.all GoT.bnd) = true := h
    rw [Bool.and_eq_true, List.all_eq_true] at h
    show PV.fr 2 1 r.length (fun i => toPV (r.getD i default)) = .fr 2 1 (r.map fun x => x.v.toNat).length fun j => .sc (.int .u8 (.ofNat ((r.map fun x => x.v.toNat).getD j 0)))
    rw [List.length_map]
    congr 1
    funext i
    show PV.sc (.int .u8 (r.getD i default).v) = _
    congr 2
    by_cases hi : i < r.length
    · have h2 : (decide (0 ≤ (r[i]).v) && decide ((r[i]).v < 256)) = true := h.2 _ (List.getElem_mem hi)
      simp only [Bool.and_eq_true, decide_eq_true_eq] at h2
      rw [List.getD_eq_getElem?_getD, List.getD_eq_getElem?_getD, List.getElem?_map, List.getElem?_eq_getElem hi, Option.getD_some, Option.map_some, Option.getD_some]
      exact (Int.toNat_of_nonneg h2.1).symm
    · rw [List.getD_eq_getElem?_getD, List.getD_eq_getElem?_getD, List.getElem?_map, List.getElem?_eq_none (by omega)]
      rfl
  show PV.fr 2 1 l.length (fun i => encRow (l.getD i default)) = .fr 2 1 (nums l).length fun i => BI ((nums l).getD i [])
  rw [nums, List.length_map]
  congr 1
  funext i
  by_cases hi : i < l.length
  · rw [List.getD_eq_getElem?_getD, List.getD_eq_getElem?_getD, List.getElem?_map, List.getElem?_eq_getElem hi, Option.getD_some, Option.map_some, Option.getD_some]
    exact key _ (h.2 _ (List.getElem_mem hi))
  · rw [List.getD_eq_getElem?_getD, List.getD_eq_getElem?_getD, List.getElem?_map, List.getElem?_eq_none (by omega)]
    exact key [] rfl
theorem walk {W : World} {l : List (List U8)} {v0 : Value} (hl : GoT.bnd l = true) (h0 : PR (memOf W) (toPV l) v0) :
    Calls Tryz.prog 4 #[v0] W fun e w' => e = .returned (.bool true) ∧ Below W.heap.size W w' := by
  refine walk_true g6_ok (xs := [BR (nums l)]) (law4 (nums l) (nums_lt hl)) (rs := [v0]) ?_
  simp only [PRs]
  exact ⟨v0, _, rfl, by rw [← nums_eq hl]; exact h0, rfl⟩
theorem own : ownKnob Tryz.prog.godebug = none := by kernel_rfl
theorem laidOut : laidOutB Tryz.prog = true := by kernel_rfl
theorem contract (H : Type) (enc : TypeId × Value → H) (W : World) (base : Nat) (args : Array Value) (ds gs : List (DataW H)) (before : List MemPlace)
    (hval : ∀ (j : Nat) t v, Tryz.f4.params[j]? = some t → args[j]? = some v → Value.okWide Tryz.prog W .any base t v)
    (hW : DataW.Whole enc Tryz.prog Tryz.f4.params.toList Rows.ruleTheoriesSpec.vars false W args.toList ds gs before) :
    Calls Tryz.prog 4 args W fun e W' => ∃ v, e = .returned v ∧ Rows.ruleTheoriesSpec.post enc Tryz.prog Tryz.f4 false true false false W args v W' := by
  have hW' := hW
  obtain ⟨p, q, hA0, hV, rfl, hfz, hnd⟩ := hW
  have hA : DataW.TrodAll enc Tryz.prog W 0 (fun _ => true) true Tryz.f4.params.toList args.toList ds p := hA0
  rw [Tryz.params4] at hA hval
  obtain ⟨v0, vs0, d0, ds0, p0, q0, hargs, rfl, rfl, h0, r0⟩ := trodAll_cons hA
  obtain ⟨rfl, rfl, rfl⟩ := trodAll_nil r0
  obtain rfl : args = #[v0] := by cases args; simp_all
  obtain ⟨rfl, rfl⟩ := trodVars_none hV
  have lt0 : ∀ x ∈ p0, x.block < W.heap.size := by obtain ⟨m, hm⟩ := h0; exact DataW.trod_lt m _ _ _ hm
  obtain ⟨a, len, cap, e0⟩ := okWide_slice Tryz.underlying65 (hval 0 65 v0 rfl rfl)
  obtain ⟨l, hl, k0⟩ := reads_arg reads_l h0 (by subst e0; rfl)
  refine (walk hl k0).mono fun e W' ⟨he, bel⟩ => ?_
  subst he
  exact ⟨_, rfl, _, _, _, [], _, [], hW', trodAll_mk1 (shut_bool Tryz.underlying4 _), (trodAll_cons_mk (Below.trod laidOut (by kernel_rfl) (of_decide_eq_true (by kernel_rfl)) h0 bel lt0) trodAll_mk0), rfl, bel.frame _, fun h => by cases h⟩
noncomputable def w0 (os : Os) : World := World.laidAll Tryz.prog os Rows.ruleTheoriesRow.laid
def args0 : Array Value := #[.slice none 0 0]
theorem laid_met (os : Os) : laidMet Tryz.prog Rows.ruleTheoriesRow.laid ((w0 os).forCall (fun _ _ => 0) ⟨#[], args0, []⟩).memory := laidMet_laidAll _ (by kernel_rfl) (by kernel_rfl)
theorem reads (os : Os) {H : Type} (enc : TypeId × Value → H) : ∃ places, DataW.whole enc Tryz.prog ((w0 os).forCall (fun _ _ => 0) ⟨#[], args0, []⟩).memory Tryz.f4.params.toList Rows.ruleTheoriesSpec.vars false args0.toList 8 = some ([.nil], [], places) := ⟨[], by kernel_rfl⟩
theorem lifted (os : Os) (started : os.Started) (H : Type) (enc : TypeId × Value → H) (F : Stop.Interp) :
    ReturnsInHanded {} Tryz.checked os 4 .any ((OpenSpec.ofChange Rows.ruleTheoriesSpec).preRow enc Tryz.prog Tryz.f4 Rows.ruleTheoriesRow.domain false Rows.ruleTheoriesRow.laid) (((OpenSpec.ofChange Rows.ruleTheoriesSpec).at F).post enc Tryz.prog Tryz.f4 false true false false) := by
  obtain ⟨places, hx⟩ := reads os enc
  refine returnsInHanded_of_row (C := Tryz.checked) (s := OpenSpec.ofChange Rows.ruleTheoriesSpec) own started (by kernel_rfl) Tryz.func4
    (witness_row_atRef (enc := enc) (C := Tryz.checked) false (w0 os) args0 (World.laidAll_os _ _ _) (by kernel_rfl) (by kernel_rfl) (by kernel_rfl)
      (OpenSpec.preRow_of_cond 8 hx (by kernel_rfl) (fun k hk => by cases hk) (by kernel_rfl) (laid_met os))) ?_
  intro W base args ds gs before hval hW _ _ _ hL _ _
  exact contract H enc W base args ds gs before hval hW
end Go.Proofs.YtofagfhccgfgmaaGreatDoor.ruleTheories
