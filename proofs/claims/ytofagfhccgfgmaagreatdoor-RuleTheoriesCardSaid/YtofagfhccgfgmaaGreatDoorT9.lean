/- The law RuleTheories of chapter 28 returns true for every list of lists of bytes, and leaves its argument as it was; no conditions but those of the row. Part 9 of 13. -/
import Derived.Test.YtofagfhccgfgmaaGreatDoorT8
import Derived.Test.YtofagfhccgfgmaaGreatDoorProg
import Derived.Shelf.Small.Strs
import Derived.Ground.NamesProg
import Derived.KernelRfl
import Derived.ChangeAt
import Derived.OpenShut
set_option linter.unusedVariables false
set_option linter.unusedSimpArgs false
/- strings.Compare: the kit's shelf, laid at this program; as a contract of Ab. -/
namespace Go.Proofs
open Go.Shelf
def Tryz.lays106_ren : Go.Shelf.Ren := ⟨fun | 106 => 217 | 213 => 249 | 265 => 269 | n => n, fun | 9 => 9 | 3 => 3 | n => n, fun | n => n⟩
theorem Tryz.lays106 : Go.Proofs.Lays.n106 Tryz.prog Tryz.lays106_ren := {
  mixed := by kernel_rfl
  f106 := Tryz.func217.trans (congrArg some (by kernel_rfl))
  f213 := Tryz.func249.trans (congrArg some (by kernel_rfl))
  f265 := Tryz.func269.trans (congrArg some (by kernel_rfl))
  t3 := Tryz.underlying3
  a3 := Tryz.isAgg3
  z3 := Tryz.sizeOf3
  v3 := Tryz.zeroValue3
  t9 := Tryz.underlying9
  a9 := Tryz.isAgg9
  z9 := Tryz.sizeOf9
  v9 := Tryz.zeroValue9 }
end Go.Proofs
namespace Go.Proofs.YtofagfhccgfgmaaGreatDoor.Wo
open Go Go.RowKit Go.Proofs.Ab
theorem compare217 (a b : ByteArray) (w : World) : Calls Tryz.prog 217 #[.string a, .string b] w fun e w' => e = .returned (.int .i64 (Lib.compareBytes a.data.toList b.data.toList)) ∧ w' = w := Any.strings_Compare Tryz.lays106 a b w
def cmpSpec : ACall := fun f xs st =>
  match Nat.beq f 217 with
  | true => match xs with
    | [.p (.st n c), .p (.st m d)] => some (.p (.sc (.int .i64 (Lib.compareBytes (decL n c) (decL m d)))), st)
    | _ => none
  | false => none
theorem cmpSpec_ok : CallOk Tryz.prog cmpSpec := by
  intro f xs st v st' h Γ w rs hr hx
  unfold cmpSpec at h
  cases hf : Nat.beq f 217 with
  | false => rw [hf] at h; cases h
  | true =>
    rw [hf] at h
    have := Nat.eq_of_beq_eq_true hf
    subst this
    simp only at h
    split at h
    · rename_i n c m d
      simp only [Option.some.injEq, Prod.mk.injEq] at h
      obtain ⟨rfl, rfl⟩ := h
      simp only [VRs, VR, PR] at hx
      obtain ⟨u, r1, rfl, ⟨_, rfl⟩, u2, r2, rfl, ⟨_, rfl⟩, rfl⟩ := hx
      refine ⟨⟨Tryz.f217, Tryz.func217, by kernel_rfl, by kernel_rfl⟩, (compare217 (dec n c) (dec m d) w).mono fun e w' ⟨he, hw⟩ => ?_⟩
      subst he hw
      exact ⟨_, Γ, rfl, Step.refl _ _ _, hr, by simp [VR, PR, dec]⟩
    · cases h
end Go.Proofs.YtofagfhccgfgmaaGreatDoor.Wo
set_option maxRecDepth 1000000
namespace Go.Proofs.YtofagfhccgfgmaaGreatDoor.Wo
open Go Go.RowKit Go.Proofs.Ab Go.Proofs.YtofagfhccgfgmaaGreatDoor.Tab
noncomputable def S4 : ACall := memoK 8 [.sc (.int .u32 (.ofNat 0))] 32 w0R
theorem S4_ok : CallOk Tryz.prog S4 := memoK_ok g3_ok w0_ok (by kernel_rfl)
noncomputable def g4 : ACall := jmix jt (orCall cmpSpec S4) 2000
theorem g4_ok : CallOk Tryz.prog g4 := jmix_ok jt_ok (orCall_ok cmpSpec_ok S4_ok) 2000
theorem awake_ok : Reck g4 14 [([], .p (.sc (.bool true)))] := by unfold Reck; kernel_rfl
end Go.Proofs.YtofagfhccgfgmaaGreatDoor.Wo
set_option maxRecDepth 1000000
namespace Go.Proofs.YtofagfhccgfgmaaGreatDoor.Wo
open Go Go.RowKit Go.Proofs.Ab Go.Proofs.YtofagfhccgfgmaaGreatDoor.Tab
def namesR : List PV := [(.ag [(.st 4 1919251317), (.st 4 846360440)]), (.ag [(.st 4 1919251317), (.st 4 1935959151)]), (.ag [(.st 4 1919251317), (.st 5 495773382245)]), (.ag [(.st 4 1919251317), (.st 4 1701147252)]), (.ag [(.st 4 1919251317), (.st 4 1935832420)]), (.ag [(.st 4 1919251317), (.st 5 495840747888)]), (.ag [(.st 4 1919251317), (.st 8 7954883259050844531)]), (.ag [(.st 4 1919251317), (.st 3 6452580)]), (.ag [(.st 4 1886611820), (.st 2 28794)]), (.ag [(.st 4 1886611820), (.st 4 2020173422)]), (.ag [(.st 4 1886611820), (.st 3 6710889)]), (.ag [(.st 4 1886611820), (.st 3 7891302)]), (.ag [(.st 4 1886611820), (.st 9 2073844980909096591730)]), (.ag [(.st 4 1886611820), (.st 7 31644423040104819)]), (.ag [(.st 4 1886611820), (.st 7 32481125787004265)]), (.ag [(.st 4 1886611820), (.st 8 3039218855712811362)]), (.ag [(.st 4 1886611820), (.st 7 12716373585260149)]), (.ag [(.st 4 1886611820), (.st 4 1886613360)]), (.ag [(.st 4 1886611820), (.st 4 1886675310)]), (.ag [(.st 4 1886611820), (.st 10 531053184691079719776884)]), (.ag [(.st 4 1886611820), (.st 3 7759218)]), (.ag [(.st 4 1886611820), (.st 13 7956982234992646598644298836322)]), (.ag [(.st 4 1886611820), (.st 3 7234924)]), (.ag [(.st 4 1886611820), (.st 8 8102650174351109737)]), (.ag [(.st 4 1886611820), (.st 1 60)]), (.ag [(.st 4 1886611820), (.st 8 3111276449750739298)]), (.ag [(.st 4 1886611820), (.st 2 26217)]), (.ag [(.st 4 1886611820), (.st 5 465491554661)]), (.ag [(.st 4 1886611820), (.st 3 7630702)]), (.ag [(.st 4 1886611820), (.st 5 482972954467)]), (.ag [(.st 4 1886611820), (.st 4 1936617315)]), (.ag [(.st 4 1886611820), (.st 3 7496803)]), (.ag [(.st 4 1886611820), (.st 3 7496035)])]
theorem names_ok : g4 40 (([] : List PV).map .p) ⟨[], []⟩ = some (.own 2 namesR 0, ⟨[], [(33, 2)]⟩) := by kernel_rfl
def lemmasV : AV := (.fl 13 [(.ag [(.st 8 8317708033554800995), (pI 3), (.st 4 1886611820), (.st 5 465491554661), (pI 0), e0, e0, e0, e0, e0, pN, (.tr 11 [(.ag [(pI 3), (.st 4 1886611820), (.st 3 7496035), (pI 0), e0, e0, e0, e0, e0, pN, (.tr 11 [(.ag [(pI 3), (.st 4 1886611820), (.st 4 1936617315), (pI 0), e0, e0, e0, e0, e0, pN, (.tr 11 [(.ag [(pI 1), (.st 4 1919251317), (.st 1 120), (pI 0), e0, e0, e0, e0, e0, pN, pN]), (.ag [(pI 1), (.st 4 1919251317), (.st 1 121), (pI 0), e0, e0, e0, e0, e0, pN, pN])])])])]), (.ag [(pI 1), (.st 4 1919251317), (.st 1 120), (pI 0), e0, e0, e0, e0, e0, pN, pN])]), (pI 1)]), (.ag [(.st 8 8317708033554801763), (pI 3), (.st 4 1886611820), (.st 5 465491554661), (pI 0), e0, e0, e0, e0, e0, pN, (.tr 11 [(.ag [(pI 3), (.st 4 1886611820), (.st 3 7496803), (pI 0), e0, e0, e0, e0, e0, pN, (.tr 11 [(.ag [(pI 3), (.st 4 1886611820), (.st 4 1936617315), (pI 0), e0, e0, e0, e0, e0, pN, (.tr 11 [(.ag [(pI 1), (.st 4 1919251317), (.st 1 120), (pI 0), e0, e0, e0, e0, e0, pN, pN]), (.ag [(pI 1), (.st 4 1919251317), (.st 1 121), (pI 0), e0, e0, e0, e0, e0, pN, pN])])])])]), (.ag [(pI 1), (.st 4 1919251317), (.st 1 121), (pI 0), e0, e0, e0, e0, e0, pN, pN])]), (pI 1)]), (.ag [(.st 10 511960427389804621099105), (pI 3), (.st 4 1886611820), (.st 7 32481125787004265), (pI 0), e0, e0, e0, e0, e0, pN, (.tr 11 [(.ag [(pI 3), (.st 4 1886611820), (.st 10 531053184691079719776884), (pI 0), e0, e0, e0, e0, e0, pN, (.tr 11 [(.ag [(pI 1), (.st 4 1919251317), (.st 1 120), (pI 0), e0, e0, e0, e0, e0, pN, pN])])]), (.ag [(pI 3), (.st 4 1886611820), (.st 5 465491554661), (pI 0), e0, e0, e0, e0, e0, pN, (.tr 11 [(.ag [(pI 3), (.st 4 1886611820), (.st 13 7956982234992646598644298836322), (pI 0), e0, e0, e0, e0, e0, pN, (.tr 11 [(.ag [(pI 1), (.st 4 1919251317), (.st 1 120), (pI 0), e0, e0, e0, e0, e0, pN, pN]), (.ag [(pI 2), e0, e0, (pI 2), e0, e0, (.st 4 1886611820), (.st 3 7104878), e0, pN, pN])])]), (.ag [(pI 1), (.st 4 1919251317), (.st 1 120), (pI 0), e0, e0, e0, e0, e0, pN, pN])])])]), (pI 1)]), (.ag [(.st 13 7956982234992646575537442025569), (pI 3), (.st 4 1886611820), (.st 5 465491554661), (pI 0), e0, e0, e0, e0, e0, pN, (.tr 11 [(.ag [(pI 3), (.st 4 1886611820), (.st 13 7956982234992646598644298836322), (pI 0), e0, e0, e0, e0, e0, pN, (.tr 11 [(.ag [(pI 3), (.st 4 1886611820), (.st 13 7956982234992646598644298836322), (pI 0), e0, e0, e0, e0, e0, pN, (.tr 11 [(.ag [(pI 1), (.st 4 1919251317), (.st 1 120), (pI 0), e0, e0, e0, e0, e0, pN, pN]), (.ag [(pI 1), (.st 4 1919251317), (.st 1 121), (pI 0), e0, e0, e0, e0, e0, pN, pN])])]), (.ag [(pI 1), (.st 4 1919251317), (.st 1 122), (pI 0), e0, e0, e0, e0, e0, pN, pN])])]), (.ag [(pI 3), (.st 4 1886611820), (.st 13 7956982234992646598644298836322), (pI 0), e0, e0, e0, e0, e0, pN, (.tr 11 [(.ag [(pI 1), (.st 4 1919251317), (.st 1 120), (pI 0), e0, e0, e0, e0, e0, pN, pN]), (.ag [(pI 3), (.st 4 1886611820), (.st 13 7956982234992646598644298836322), (pI 0), e0, e0, e0, e0, e0, pN, (.tr 11 [(.ag [(pI 1), (.st 4 1919251317), (.st 1 121), (pI 0), e0, e0, e0, e0, e0, pN, pN]), (.ag [(pI 1), (.st 4 1919251317), (.st 1 122), (pI 0), e0, e0, e0, e0, e0, pN, pN])])])])])]), (pI 1)]), (.ag [(.st 13 9142637465062889202485265001584), (pI 3), (.st 4 1886611820), (.st 5 465491554661), (pI 0), e0, e0, e0, e0, e0, pN, (.tr 11 [(.ag [(pI 3), (.st 4 1886611820), (.st 8 3111276449750739298), (pI 0), e0, e0, e0, e0, e0, pN, (.tr 11 [(.ag [(pI 1), (.st 4 1919251317), (.st 1 120), (pI 0), e0, e0, e0, e0, e0, pN, pN]), (.ag [(pI 1), (.st 4 1919251317), (.st 1 121), (pI 0), e0, e0, e0, e0, e0, pN, pN])])]), (.ag [(pI 3), (.st 4 1886611820), (.st 8 3111276449750739298), (pI 0), e0, e0, e0, e0, e0, pN, (.tr 11 [(.ag [(pI 1), (.st 4 1919251317), (.st 1 121), (pI 0), e0, e0, e0, e0, e0, pN, pN]), (.ag [(pI 1), (.st 4 1919251317), (.st 1 120), (pI 0), e0, e0, e0, e0, e0, pN, pN])])])]), (pI 1)]), (.ag [(.st 15 260536693996370769484804928033877104), (pI 3), (.st 4 1886611820), (.st 5 465491554661), (pI 0), e0, e0, e0, e0, e0, pN, (.tr 11 [(.ag [(pI 3), (.st 4 1886611820), (.st 8 3111276449750739298), (pI 0), e0, e0, e0, e0, e0, pN, (.tr 11 [(.ag [(pI 1), (.st 4 1919251317), (.st 1 120), (pI 0), e0, e0, e0, e0, e0, pN, pN]), (.ag [(pI 3), (.st 4 1886611820), (.st 8 3111276449750739298), (pI 0), e0, e0, e0, e0, e0, pN, (.tr 11 [(.ag [(pI 1), (.st 4 1919251317), (.st 1 121), (pI 0), e0, e0, e0, e0, e0, pN, pN]), (.ag [(pI 1), (.st 4 1919251317), (.st 1 122), (pI 0), e0, e0, e0, e0, e0, pN, pN])])])])]), (.ag [(pI 3), (.st 4 1886611820), (.st 8 3111276449750739298), (pI 0), e0, e0, e0, e0, e0, pN, (.tr 11 [(.ag [(pI 1), (.st 4 1919251317), (.st 1 121), (pI 0), e0, e0, e0, e0, e0, pN, pN]), (.ag [(pI 3), (.st 4 1886611820), (.st 8 3111276449750739298), (pI 0), e0, e0, e0, e0, e0, pN, (.tr 11 [(.ag [(pI 1), (.st 4 1919251317), (.st 1 120), (pI 0), e0, e0, e0, e0, e0, pN, pN]), (.ag [(pI 1), (.st 4 1919251317), (.st 1 122), (pI 0), e0, e0, e0, e0, e0, pN, pN])])])])])]), (pI 1)]), (.ag [(.st 10 474273099600830470710636), (pI 3), (.st 4 1886611820), (.st 5 465491554661), (pI 0), e0, e0, e0, e0, e0, pN, (.tr 11 [(.ag [(pI 3), (.st 4 1886611820), (.st 3 7234924), (pI 0), e0, e0, e0, e0, e0, pN, (.tr 11 [(.ag [(pI 3), (.st 4 1886611820), (.st 13 7956982234992646598644298836322), (pI 0), e0, e0, e0, e0, e0, pN, (.tr 11 [(.ag [(pI 1), (.st 4 1919251317), (.st 1 120), (pI 0), e0, e0, e0, e0, e0, pN, pN]), (.ag [(pI 1), (.st 4 1919251317), (.st 1 121), (pI 0), e0, e0, e0, e0, e0, pN, pN])])])])]), (.ag [(pI 3), (.st 4 1886611820), (.st 8 3111276449750739298), (pI 0), e0, e0, e0, e0, e0, pN, (.tr 11 [(.ag [(pI 3), (.st 4 1886611820), (.st 3 7234924), (pI 0), e0, e0, e0, e0, e0, pN, (.tr 11 [(.ag [(pI 1), (.st 4 1919251317), (.st 1 120), (pI 0), e0, e0, e0, e0, e0, pN, pN])])]), (.ag [(pI 3), (.st 4 1886611820), (.st 3 7234924), (pI 0), e0, e0, e0, e0, e0, pN, (.tr 11 [(.ag [(pI 1), (.st 4 1919251317), (.st 1 121), (pI 0), e0, e0, e0, e0, e0, pN, pN])])])])])]), (pI 1)]), (.ag [(.st 11 138296409776066645308892524), (pI 3), (.st 4 1886611820), (.st 8 8102650174351109737), (pI 0), e0, e0, e0, e0, e0, pN, (.tr 11 [(.ag [(pI 3), (.st 4 1886611820), (.st 3 7234924), (pI 0), e0, e0, e0, e0, e0, pN, (.tr 11 [(.ag [(pI 1), (.st 4 1919251317), (.st 1 120), (pI 0), e0, e0, e0, e0, e0, pN, pN])])])]), (pI 2)]), (.ag [(.st 16 134866857477203892207031548729166292332), (pI 3), (.st 4 1886611820), (.st 3 7630702), (pI 0), e0, e0, e0, e0, e0, pN, (.tr 11 [(.ag [(pI 3), (.st 4 1886611820), (.st 1 60), (pI 0), e0, e0, e0, e0, e0, pN, (.tr 11 [(.ag [(pI 3), (.st 4 1886611820), (.st 3 7234924), (pI 0), e0, e0, e0, e0, e0, pN, (.tr 11 [(.ag [(pI 1), (.st 4 1919251317), (.st 1 120), (pI 0), e0, e0, e0, e0, e0, pN, pN])])]), (.ag [(pI 2), e0, e0, (pI 1), (.st 1 48), (.st 1 49), e0, e0, e0, pN, pN])])])]), (pI 4)]), (.ag [(.st 9 2074421441378049552240), (pI 3), (.st 4 1886611820), (.st 7 32481125787004265), (pI 0), e0, e0, e0, e0, e0, pN, (.tr 11 [(.ag [(pI 3), (.st 4 1886611820), (.st 4 1886613360), (pI 0), e0, e0, e0, e0, e0, pN, (.tr 11 [(.ag [(pI 1), (.st 4 1919251317), (.st 1 110), (pI 0), e0, e0, e0, e0, e0, pN, pN])])]), (.ag [(pI 3), (.st 4 1886611820), (.st 4 1886675310), (pI 0), e0, e0, e0, e0, e0, pN, (.tr 11 [(.ag [(pI 1), (.st 4 1919251317), (.st 1 110), (pI 0), e0, e0, e0, e0, e0, pN, pN])])])]), (pI 3)]), (.ag [(.st 13 8908958082500278871676033458542), (pI 3), (.st 4 1886611820), (.st 7 32481125787004265), (pI 0), e0, e0, e0, e0, e0, pN, (.tr 11 [(.ag [(pI 3), (.st 4 1886611820), (.st 4 1886675310), (pI 0), e0, e0, e0, e0, e0, pN, (.tr 11 [(.ag [(pI 1), (.st 4 1919251317), (.st 1 110), (pI 0), e0, e0, e0, e0, e0, pN, pN])])]), (.ag [(pI 3), (.st 4 1886611820), (.st 8 8102650174351109737), (pI 0), e0, e0, e0, e0, e0, pN, (.tr 11 [(.ag [(pI 1), (.st 4 1919251317), (.st 1 110), (pI 0), e0, e0, e0, e0, e0, pN, pN])])])]), (pI 3)]), (.ag [(.st 12 33861315163562240176871858531), (pI 3), (.st 4 1886611820), (.st 7 32481125787004265), (pI 0), e0, e0, e0, e0, e0, pN, (.tr 11 [(.ag [(pI 3), (.st 4 1886611820), (.st 5 482972954467), (pI 0), e0, e0, e0, e0, e0, pN, (.tr 11 [(.ag [(pI 1), (.st 4 1919251317), (.st 1 120), (pI 0), e0, e0, e0, e0, e0, pN, pN])])]), (.ag [(pI 3), (.st 4 1886611820), (.st 5 465491554661), (pI 0), e0, e0, e0, e0, e0, pN, (.tr 11 [(.ag [(pI 3), (.st 4 1886611820), (.st 4 1936617315), (pI 0), e0, e0, e0, e0, e0, pN, (.tr 11 [(.ag [(pI 3), (.st 4 1886611820), (.st 3 7496035), (pI 0), e0, e0, e0, e0, e0, pN, (.tr 11 [(.ag [(pI 1), (.st 4 1919251317), (.st 1 120), (pI 0), e0, e0, e0, e0, e0, pN, pN])])]), (.ag [(pI 3), (.st 4 1886611820), (.st 3 7496803), (pI 0), e0, e0, e0, e0, e0, pN, (.tr 11 [(.ag [(pI 1), (.st 4 1919251317), (.st 1 120), (pI 0), e0, e0, e0, e0, e0, pN, pN])])])])]), (.ag [(pI 1), (.st 4 1919251317), (.st 1 120), (pI 0), e0, e0, e0, e0, e0, pN, pN])])])]), (pI 5)]), (.ag [(.st 8 8391166444061484402), (pI 3), (.st 4 1886611820), (.st 10 531053184691079719776884), (pI 0), e0, e0, e0, e0, e0, pN, (.tr 11 [(.ag [(pI 3), (.st 4 1886611820), (.st 3 7759218), (pI 0), e0, e0, e0, e0, e0, pN, (.tr 11 [(.ag [(pI 1), (.st 4 1919251317), (.st 1 120), (pI 0), e0, e0, e0, e0, e0, pN, pN])])])]), (pI 8)]), (.ag [(.st 20 578825458491896554300161426208599908388812185971), (pI 3), (.st 4 1886611820), (.st 2 26217), (pI 0), e0, e0, e0, e0, e0, pN, (.tr 11 [(.ag [(pI 3), (.st 4 1886611820), (.st 8 8101519867924934498), (pI 0), e0, e0, e0, e0, e0, pN, (.tr 11 [(.ag [(pI 3), (.st 4 1919251317), (.st 8 7954883259050844531), (pI 0), e0, e0, e0, e0, e0, pN, (.tr 11 [(.ag [(pI 1), (.st 4 1886611820), (.st 1 120), (pI 0), e0, e0, e0, e0, e0, pN, pN]), (.ag [(pI 1), (.st 4 1886611820), (.st 1 121), (pI 0), e0, e0, e0, e0, e0, pN, pN])])])])]), (.ag [(pI 3), (.st 4 1886611820), (.st 2 26217), (pI 0), e0, e0, e0, e0, e0, pN, (.tr 11 [(.ag [(pI 3), (.st 4 1919251317), (.st 8 7954883259050844531), (pI 0), e0, e0, e0, e0, e0, pN, (.tr 11 [(.ag [(pI 1), (.st 4 1886611820), (.st 1 120), (pI 0), e0, e0, e0, e0, e0, pN, pN]), (.ag [(pI 1), (.st 4 1886611820), (.st 1 120), (pI 0), e0, e0, e0, e0, e0, pN, pN])])]), (.ag [(pI 3), (.st 4 1886611820), (.st 2 26217), (pI 0), e0, e0, e0, e0, e0, pN, (.tr 11 [(.ag [(pI 3), (.st 4 1886611820), (.st 7 32481125787004265), (pI 0), e0, e0, e0, e0, e0, pN, (.tr 11 [(.ag [(pI 3), (.st 4 1919251317), (.st 8 7954883259050844531), (pI 0), e0, e0, e0, e0, e0, pN, (.tr 11 [(.ag [(pI 1), (.st 4 1886611820), (.st 1 120), (pI 0), e0, e0, e0, e0, e0, pN, pN]), (.ag [(pI 1), (.st 4 1886611820), (.st 1 121), (pI 0), e0, e0, e0, e0, e0, pN, pN])])]), (.ag [(pI 3), (.st 4 1919251317), (.st 8 7954883259050844531), (pI 0), e0, e0, e0, e0, e0, pN, (.tr 11 [(.ag [(pI 1), (.st 4 1886611820), (.st 1 121), (pI 0), e0, e0, e0, e0, e0, pN, pN]), (.ag [(pI 1), (.st 4 1886611820), (.st 1 120), (pI 0), e0, e0, e0, e0, e0, pN, pN])])])])]), (.ag [(pI 3), (.st 4 1886611820), (.st 7 32481125787004265), (pI 0), e0, e0, e0, e0, e0, pN, (.tr 11 [(.ag [(pI 3), (.st 4 1886611820), (.st 2 26217), (pI 0), e0, e0, e0, e0, e0, pN, (.tr 11 [(.ag [(pI 3), (.st 4 1919251317), (.st 8 7954883259050844531), (pI 0), e0, e0, e0, e0, e0, pN, (.tr 11 [(.ag [(pI 1), (.st 4 1886611820), (.st 1 120), (pI 0), e0, e0, e0, e0, e0, pN, pN]), (.ag [(pI 1), (.st 4 1886611820), (.st 1 121), (pI 0), e0, e0, e0, e0, e0, pN, pN])])]), (.ag [(pI 3), (.st 4 1919251317), (.st 8 7954883259050844531), (pI 0), e0, e0, e0, e0, e0, pN, (.tr 11 [(.ag [(pI 1), (.st 4 1886611820), (.st 1 121), (pI 0), e0, e0, e0, e0, e0, pN, pN]), (.ag [(pI 1), (.st 4 1886611820), (.st 1 122), (pI 0), e0, e0, e0, e0, e0, pN, pN])])]), (.ag [(pI 2), e0, e0, (pI 2), e0, e0, (.st 4 1886611820), (.st 3 7104878), e0, pN, pN])])]), (.ag [(pI 3), (.st 4 1919251317), (.st 8 7954883259050844531), (pI 0), e0, e0, e0, e0, e0, pN, (.tr 11 [(.ag [(pI 1), (.st 4 1886611820), (.st 1 120), (pI 0), e0, e0, e0, e0, e0, pN, pN]), (.ag [(pI 1), (.st 4 1886611820), (.st 1 122), (pI 0), e0, e0, e0, e0, e0, pN, pN])])])])]), (.ag [(pI 2), e0, e0, (pI 2), e0, e0, (.st 4 1886611820), (.st 3 7104878), e0, pN, pN])])]), (.ag [(pI 2), e0, e0, (pI 2), e0, e0, (.st 4 1886611820), (.st 3 7104878), e0, pN, pN])])]), (.ag [(pI 2), e0, e0, (pI 2), e0, e0, (.st 4 1886611820), (.st 3 7104878), e0, pN, pN])]), (pI 6)]), (.ag [(.st 12 34165963441767551604034986355), (pI 3), (.st 4 1886611820), (.st 7 32481125787004265), (pI 0), e0, e0, e0, e0, e0, pN, (.tr 11 [(.ag [(pI 3), (.st 4 1919251317), (.st 8 7954883259050844531), (pI 0), e0, e0, e0, e0, e0, pN, (.tr 11 [(.ag [(pI 1), (.st 4 1919251317), (.st 1 120), (pI 0), e0, e0, e0, e0, e0, pN, pN]), (.ag [(pI 1), (.st 4 1919251317), (.st 1 121), (pI 0), e0, e0, e0, e0, e0, pN, pN])])]), (.ag [(pI 3), (.st 4 1886611820), (.st 5 465491554661), (pI 0), e0, e0, e0, e0, e0, pN, (.tr 11 [(.ag [(pI 3), (.st 4 1886611820), (.st 3 7234924), (pI 0), e0, e0, e0, e0, e0, pN, (.tr 11 [(.ag [(pI 1), (.st 4 1919251317), (.st 1 120), (pI 0), e0, e0, e0, e0, e0, pN, pN])])]), (.ag [(pI 3), (.st 4 1886611820), (.st 3 7234924), (pI 0), e0, e0, e0, e0, e0, pN, (.tr 11 [(.ag [(pI 1), (.st 4 1919251317), (.st 1 121), (pI 0), e0, e0, e0, e0, e0, pN, pN])])])])])]), (pI 7)]), (.ag [(.st 12 36641871854537209371704516979), (pI 3), (.st 4 1919251317), (.st 8 7954883259050844531), (pI 0), e0, e0, e0, e0, e0, pN, (.tr 11 [(.ag [(pI 3), (.st 4 1886611820), (.st 3 7759218), (pI 0), e0, e0, e0, e0, e0, pN, (.tr 11 [(.ag [(pI 1), (.st 4 1919251317), (.st 1 120), (pI 0), e0, e0, e0, e0, e0, pN, pN])])]), (.ag [(pI 1), (.st 4 1919251317), (.st 1 120), (pI 0), e0, e0, e0, e0, e0, pN, pN])]), (pI 1)]), (.ag [(.st 9 2074421441378183112302), (pI 3), (.st 4 1886611820), (.st 7 32481125787004265), (pI 0), e0, e0, e0, e0, e0, pN, (.tr 11 [(.ag [(pI 3), (.st 4 1886611820), (.st 4 1886675310), (pI 0), e0, e0, e0, e0, e0, pN, (.tr 11 [(.ag [(pI 1), (.st 4 1919251317), (.st 1 110), (pI 0), e0, e0, e0, e0, e0, pN, pN])])]), (.ag [(pI 3), (.st 4 1886611820), (.st 5 465491554661), (pI 0), e0, e0, e0, e0, e0, pN, (.tr 11 [(.ag [(pI 3), (.st 4 1886611820), (.st 4 2020173422), (pI 0), e0, e0, e0, e0, e0, pN, (.tr 11 [(.ag [(pI 1), (.st 4 1919251317), (.st 1 110), (pI 0), e0, e0, e0, e0, e0, pN, pN])])]), (.ag [(pI 1), (.st 4 1919251317), (.st 1 110), (pI 0), e0, e0, e0, e0, e0, pN, pN])])])]), (pI 1)]), (.ag [(.st 10 512070261200627212773734), (pI 3), (.st 4 1886611820), (.st 7 32481125787004265), (pI 0), e0, e0, e0, e0, e0, pN, (.tr 11 [(.ag [(pI 3), (.st 4 1886611820), (.st 7 31657557352151411), (pI 0), e0, e0, e0, e0, e0, pN, (.tr 11 [(.ag [(pI 3), (.st 4 1886611820), (.st 7 31644423040104819), (pI 0), e0, e0, e0, e0, e0, pN, (.tr 11 [(.ag [(pI 1), (.st 4 1919251317), (.st 1 120), (pI 0), e0, e0, e0, e0, e0, pN, pN])])])])]), (.ag [(pI 3), (.st 4 1886611820), (.st 5 465491554661), (pI 0), e0, e0, e0, e0, e0, pN, (.tr 11 [(.ag [(pI 3), (.st 4 1886611820), (.st 3 7891302), (pI 0), e0, e0, e0, e0, e0, pN, (.tr 11 [(.ag [(pI 3), (.st 4 1886611820), (.st 3 7891302), (pI 0), e0, e0, e0, e0, e0, pN, (.tr 11 [(.ag [(pI 1), (.st 4 1919251317), (.st 1 120), (pI 0), e0, e0, e0, e0, e0, pN, pN])])])])]), (.ag [(pI 3), (.st 4 1886611820), (.st 3 7891302), (pI 0), e0, e0, e0, e0, e0, pN, (.tr 11 [(.ag [(pI 1), (.st 4 1919251317), (.st 1 120), (pI 0), e0, e0, e0, e0, e0, pN, pN])])])])])]), (pI 1)]), (.ag [(.st 11 138296318114583548378965356), (pI 3), (.st 4 1886611820), (.st 7 32481125787004265), (pI 0), e0, e0, e0, e0, e0, pN, (.tr 11 [(.ag [(pI 3), (.st 4 1886611820), (.st 2 26217), (pI 0), e0, e0, e0, e0, e0, pN, (.tr 11 [(.ag [(pI 3), (.st 4 1886611820), (.st 1 60), (pI 0), e0, e0, e0, e0, e0, pN, (.tr 11 [(.ag [(pI 1), (.st 4 1919251317), (.st 1 120), (pI 0), e0, e0, e0, e0, e0, pN, pN]), (.ag [(pI 1), (.st 4 1919251317), (.st 1 121), (pI 0), e0, e0, e0, e0, e0, pN, pN])])]), (.ag [(pI 3), (.st 4 1886611820), (.st 1 60), (pI 0), e0, e0, e0, e0, e0, pN, (.tr 11 [(.ag [(pI 1), (.st 4 1919251317), (.st 1 121), (pI 0), e0, e0, e0, e0, e0, pN, pN]), (.ag [(pI 1), (.st 4 1919251317), (.st 1 122), (pI 0), e0, e0, e0, e0, e0, pN, pN])])]), (.ag [(pI 2), e0, e0, (pI 2), e0, e0, (.st 4 1886611820), (.st 3 7104878), e0, pN, pN])])]), (.ag [(pI 3), (.st 4 1886611820), (.st 1 60), (pI 0), e0, e0, e0, e0, e0, pN, (.tr 11 [(.ag [(pI 1), (.st 4 1919251317), (.st 1 120), (pI 0), e0, e0, e0, e0, e0, pN, pN]), (.ag [(pI 1), (.st 4 1919251317), (.st 1 122), (pI 0), e0, e0, e0, e0, e0, pN, pN])])])]), (pI 1)]), (.ag [(.st 13 8038691132050414482116208587380), (pI 3), (.st 4 1886611820), (.st 1 60), (pI 0), e0, e0, e0, e0, e0, pN, (.tr 11 [(.ag [(pI 2), e0, e0, (pI 1), (.st 1 48), (.st 1 49), e0, e0, e0, pN, pN]), (.ag [(pI 3), (.st 4 1919251317), (.st 4 1701147252), (pI 0), e0, e0, e0, e0, e0, pN, (.tr 11 [(.ag [(pI 1), (.st 4 1919251317), (.st 1 120), (pI 0), e0, e0, e0, e0, e0, pN, pN])])])]), (pI 4)])])
theorem lemmas_ok : Reck g4 26 [([], lemmasV)] := by unfold Reck; kernel_rfl
noncomputable def S6 : ACall := orCall (memoK 40 [] 2 namesR) (orCall (memoL 26 [([], lemmasV)]) (orCall (memoL 14 [([], .p (.sc (.bool true)))]) S4))
theorem S6_ok : CallOk Tryz.prog S6 := orCall_ok (memoK_ok g4_ok names_ok (by kernel_rfl)) (orCall_ok (memoL_ok g4_ok lemmas_ok) (orCall_ok (memoL_ok g4_ok awake_ok) S4_ok))
noncomputable def g6 : ACall := jmix jt S6 2000
theorem g6_ok : CallOk Tryz.prog g6 := jmix_ok jt_ok S6_ok 2000
end Go.Proofs.YtofagfhccgfgmaaGreatDoor.Wo
/- SameSymbols of a row with itself; calls of the functions of RT1. -/
namespace Go.Proofs.YtofagfhccgfgmaaGreatDoor.Wo
open Go Go.RowKit Go.Proofs.Ab Go.Proofs.YtofagfhccgfgmaaGreatDoor.Tab
theorem sy_refl (s : Sy) : s.eq s = true := by simp [Sy.eq]
theorem same16 (call : ACall) (n : Nat) (l : List Sy) (st : St) (hl : l.length < 1000000) (hn : l.length < n) :
    R16 call n (.p (rowS l)) (.p (rowS l)) st = some (.p (.sc (.bool true)), st) := by
  unfold R16
  rw [len_row, len_row]
  have e : eqZ (.ofNat l.length) (.ofNat l.length) = true := by rw [eqZ_eq]; simp
  rw [e]
  show (jLoop (σ := AV → AV → Int → St → CV) _ _ n (.p (rowS l)) (.p (rowS l)) (.ofNat 0) st : CV) = _
  refine loopQ (σ := AV → AV → Int → St → CV) (len := l.length) (fun j f => f (.p (rowS l)) (.p (rowS l)) (.ofNat j) st = some (.p (.sc (.bool true)), st)) (fun ih j hj hih => ?_) n 0 (Nat.zero_le _) (by omega)
  simp only [len_row, lt_eq]
  by_cases hj' : j < l.length
  · obtain ⟨x, hx, hd⟩ := drop_cons hj'
    simp only [hj', decide_true]
    show (jIndexAddr 2 (.p (rowS l)) (.ofNat j) _ : CV) = _
    rw [at_row l j x _ hx, sy_load, at_row l j x _ hx, sy_load, sy_eq, sy_refl]
    show wrapK .i64 (addZ (.ofNat j) (.ofNat 1)) _ = _
    rw [next j (by omega)]
    exact hih hj'
  · simp only [hj', decide_false]
    rfl
theorem g6_at (f : Nat) (xs : List AV) (st : St) (n : Nat) (h : S6 f xs st = none) : jmix jt S6 (n + 1) f xs st = jcallStep jt (jmix jt S6 n) n f xs st := by
  show Option.rec (motive := fun _ => CV) (jcallStep jt (jmix jt S6 n) n f xs st) (fun r => some r) (S6 f xs st) = _
  rw [h]
theorem call16 (l : List Sy) (st : St) (n : Nat) (hl : l.length < 1000000) (hn : l.length < n) : jmix jt S6 (n + 1) 16 [.p (rowS l), .p (rowS l)] st = some (.p (.sc (.bool true)), st) := by
  have e : ∀ (c : ACall), jcallStep jt c n 16 [.p (rowS l), .p (rowS l)] st = Option.rec (motive := fun _ => CV) none (fun y => Prod.rec (motive := fun _ => CV) (fun v s => fzR 0 0 v s (backR false st)) y) (R16 c n (.p (rowS l)) (.p (rowS l)) ⟨[], []⟩) := by
    intro c
    kernel_rfl
  have h0 : S6 16 [.p (rowS l), .p (rowS l)] st = none := by kernel_rfl
  rw [g6_at 16 _ st n h0, e, same16 (jmix jt S6 n) n l ⟨[], []⟩ hl hn]
  rfl
theorem call42 (l : List Sy) (x : Sy) (st : St) (n : Nat) (hl : l.length < 1000000) (hn : l.length < n) : jmix jt S6 (n + 1) 42 [.p (rowS l), x.V] st = some (.p (.sc (.bool (l.any fun t => t.eq x))), st) := by
  have e : ∀ (c : ACall), jcallStep jt c n 42 [.p (rowS l), x.V] st = Option.rec (motive := fun _ => CV) none (fun y => Prod.rec (motive := fun _ => CV) (fun v s => fzR 0 0 v s (backR false st)) y) (R42 c n (.p (rowS l)) x.V ⟨[], []⟩) := by
    intro c
    kernel_rfl
  have h0 : S6 42 [.p (rowS l), x.V] st = none := by kernel_rfl
  rw [g6_at 42 _ st n h0, e, has42 (jmix jt S6 n) n l x hl hn]
  rfl
theorem call41 (l : List Sy) (x : Sy) (st : St) (n : Nat) (hl : l.length < 1000000) (hn : l.length < n) : jmix jt S6 (n + 1) 41 [.p (rowS l), x.V] st = some (.p (.sc (.bool (l.any fun t => t.eq x))), st) := by
  have e : ∀ (c : ACall), jcallStep jt c n 41 [.p (rowS l), x.V] st = Option.rec (motive := fun _ => CV) none (fun y => Prod.rec (motive := fun _ => CV) (fun v s => fzR 0 0 v s (backR false st)) y) (R41 c n (.p (rowS l)) x.V ⟨[], []⟩) := by
    intro c
    kernel_rfl
  have h0 : S6 41 [.p (rowS l), x.V] st = none := by kernel_rfl
  obtain ⟨st', h⟩ := has41 (jmix jt S6 n) n l x hl hn
  rw [g6_at 41 _ st n h0, e, h]
  rfl
theorem pcall42 (l : List Sy) (x : Sy) (st : St) (n : Nat) (hl : l.length < 1000000) (hn : l.length < n) : pcall keep (jmix jt S6 (n + 1)) 42 [.p (rowS l), x.V] st = some (.p (.sc (.bool (l.any fun t => t.eq x))), st) := by
  unfold pcall
  have h1 : keep (42 + 1000000) = false := by kernel_rfl
  have h2 : strips [.p (rowS l), x.V] = [.p (rowS l), x.V] := by simp [strips, strip, Sy.V]
  have h3 : noids [.p (rowS l), x.V] = true := by simp [noids, noid, Sy.V]
  rw [h1, h2, h3]
  simp only [cond_false, cond_true]
  rw [call42 l x ⟨[], []⟩ n hl hn]
  simp [noid]
end Go.Proofs.YtofagfhccgfgmaaGreatDoor.Wo
/- Appends of symbols. -/
namespace Go.Proofs.YtofagfhccgfgmaaGreatDoor.Wo
open Go Go.RowKit Go.Proofs.Ab Go.Proofs.YtofagfhccgfgmaaGreatDoor.Tab
theorem app_nil {α : Type} (H : List (List AV)) (K : List (Nat × Nat)) (y : PV) (κ : AV → St → Option α) :
    jApp Tryz.prog 26 26 ⟨H, K⟩ (zN) (.fl 2 [y]) κ = κ (.own 2 [y] K.length) ⟨H, K ++ [(1, 2)]⟩ := by
  have h : jApp Tryz.prog 26 26 ⟨H, K⟩ (zN) (.fl 2 [y]) κ = fM K.length fun k => appA K [(1, 2)] fun K => κ (.own 2 [y] k) ⟨H, K⟩ := by kernel_rfl
  rw [h, fM_eq, appA_eq]
theorem app_own {α : Type} (H : List (List AV)) (K : List (Nat × Nat)) (rxs : List PV) (k : Nat) (y : PV) (κ : AV → St → Option α) (hk : K[k]? = some (rxs.length, 2)) (hl : rxs.length < 1000000) :
    jApp Tryz.prog 26 26 ⟨H, K⟩ (.own 2 rxs k) (.fl 2 [y]) κ = κ (.own 2 (y :: rxs) k) ⟨H, K.set k (rxs.length + 1, 2)⟩ := by
  have h : jApp Tryz.prog 26 26 ⟨H, K⟩ (.own 2 rxs k) (.fl 2 [y]) κ = fM (Nat.add rxs.length 1) fun l => nthA K k fun p => Prod.rec (motive := fun _ => Option α) (fun l' F' =>
        Bool.rec (motive := fun _ => Option α) none (setA K k (l, 2) fun K => κ (.own 2 (y :: rxs) k) ⟨H, K⟩)
          (Nat.beq (Nat.succ l') l && (Nat.beq F' 2 && (Nat.beq 2 2 && (Nat.ble (Nat.mul (Nat.add (Nat.mul 2 l) 768) 32) 281474976710656 && Nat.ble l 9223372036854775807))))) p := by kernel_rfl
  rw [h, fM_eq, nthA_eq, hk]
  simp only [setA_eq]
  have e1 : Nat.beq (Nat.succ rxs.length) (Nat.add rxs.length 1) = true := Nat.beq_refl _
  have e2 : Nat.ble (Nat.mul (Nat.add (Nat.mul 2 (Nat.add rxs.length 1)) 768) 32) 281474976710656 = true := Nat.ble_eq_true_of_le (by show (2 * (rxs.length + 1) + 768) * 32 ≤ _; omega)
  have e3 : Nat.ble (Nat.add rxs.length 1) 9223372036854775807 = true := Nat.ble_eq_true_of_le (by show rxs.length + 1 ≤ _; omega)
  rw [e1, e2, e3]
  rfl
def rowO (l : List Sy) (k : Nat) : AV :=
  match l with
  | [] => .p (rowS [])
  | x :: r => .own 2 ((x :: r).map Sy.P).reverse k
theorem len_own {α : Type} (l : List Sy) (k : Nat) (κ : Int → Option α) : jLen Tryz.prog 26 (.av (rowO l k)) κ = κ (.ofNat l.length) := by
  cases l with
  | nil => exact len_nil κ
  | cons x r =>
    show jLen Tryz.prog 26 (.av (.own 2 ((x :: r).map Sy.P).reverse k)) κ = _
    have hlen : (((x :: r).map Sy.P).reverse).length = (x :: r).length := by simp
    generalize ((x :: r).map Sy.P).reverse = xs at hlen ⊢
    have h : jLen Tryz.prog 26 (.av (.own 2 xs k)) κ = jLenR (.own 2 xs k) (jG ((alen Tryz.prog 26 (.own 2 xs k)).map (·, ⟨[], []⟩)) false fun v _ => asI .i64 v κ) κ := by kernel_rfl
    rw [h, ← hlen]
    cases xs with
    | nil => simp at hlen
    | cons y q => rfl
theorem at_own {α : Type} (l : List Sy) (k j : Nat) (x : Sy) (κ : AV → Option α) (h : l[j]? = some x) : jIndexAddr 2 (rowO l k) (.ofNat j) κ = κ (.ipt x.P.cells) := by
  cases l with
  | nil => simp at h
  | cons y r =>
    show nthR ((y :: r).map Sy.P).reverse j (fun y => jEl y κ) = _
    rw [nthR_eq, List.reverse_reverse, List.getElem?_map, h]
    exact fLs_eq _ _
def tokK (K : List (Nat × Nat)) (l : List Sy) (k : Nat) : Prop := l = [] ∨ K[k]? = some (l.length, 2)
theorem strip_rowO (l : List Sy) (k : Nat) : strip (rowO l k) = .p (rowS l) := by
  cases l with
  | nil => simp [rowO, rowS, strip]
  | cons x r => simp [rowO, rowS, strip]
theorem strips_rowO (l : List Sy) (k : Nat) (x : Sy) : strips [rowO l k, x.V] = [.p (rowS l), x.V] := by simp [strips, strip_rowO, strip, Sy.V]
theorem call42o (l : List Sy) (k : Nat) (x : Sy) (st : St) (n : Nat) (hl : l.length < 1000000) (hn : l.length < n) : jmix jt S6 (n + 1) 42 [rowO l k, x.V] st = some (.p (.sc (.bool (l.any fun t => t.eq x))), st) := by
  cases l with
  | nil => exact call42 [] x st n hl hn
  | cons y r =>
    show jmix jt S6 (n + 1) 42 [.own 2 ((y :: r).map Sy.P).reverse k, x.V] st = _
    have hs : strips [.own 2 ((y :: r).map Sy.P).reverse k, x.V] = [.p (rowS (y :: r)), x.V] := strips_rowO (y :: r) k x
    generalize ((y :: r).map Sy.P).reverse = xs at hs ⊢
    have e : ∀ (c : ACall), jcallStep jt c n 42 [.own 2 xs k, x.V] st = stripsR [.own 2 xs k, x.V] fun ys => Bool.rec (motive := fun _ => CV)
        (jbodyK (fun call n xs s => args2 (fun x0 x1 => R42 call n x0 x1 s) xs) c n [.own 2 xs k, x.V] st fun v st' => inR false st.H.length st.K.length v st')
        (jbodyK (fun call n xs s => args2 (fun x0 x1 => R42 call n x0 x1 s) xs) c n ys ⟨[], []⟩ (backR false st)) (plainDs ys) := by
      intro c
      kernel_rfl
    have h0 : S6 42 [.own 2 xs k, x.V] st = none := by kernel_rfl
    rw [g6_at 42 _ st n h0, e, stripsR_eq, hs]
    show Option.rec (motive := fun _ => CV) none (fun y => Prod.rec (motive := fun _ => CV) (fun v s => fzR 0 0 v s (backR false st)) y) (R42 (jmix jt S6 n) n (.p (rowS (y :: r))) x.V ⟨[], []⟩) = _
    rw [has42 (jmix jt S6 n) n (y :: r) x hl hn]
    rfl
end Go.Proofs.YtofagfhccgfgmaaGreatDoor.Wo
/- Rows of entries; lispproverref28.Disabled on them. -/
set_option maxRecDepth 100000
namespace Go.Proofs.YtofagfhccgfgmaaGreatDoor.Wo
open Go Go.RowKit Go.Proofs.Ab Go.Proofs.YtofagfhccgfgmaaGreatDoor.Tab
structure En where
  nm : Sy
  en : List Sy
  dis : List Sy
def En.cells (e : En) : List PV := [.sc (.int .i64 (.ofNat 8)), .st e.nm.a e.nm.b, .st e.nm.c e.nm.d, .sc (.string ⟨#[]⟩), .sc (.slice none (nat_lit 0) (nat_lit 0)), .sc (.string ⟨#[]⟩), .sc (.string ⟨#[]⟩), .sc (.slice none (nat_lit 0) (nat_lit 0)), .sc (.bool false), .sc (.int .i64 (.ofNat 0)),
  .sc (.string ⟨#[]⟩), .sc (.string ⟨#[]⟩), .sc (.int .i64 (.ofNat 0)), .sc (.string ⟨#[]⟩), .sc (.string ⟨#[]⟩), .sc (.string ⟨#[]⟩), .sc (.string ⟨#[]⟩), .sc (.string ⟨#[]⟩), .sc (.slice none (nat_lit 0) (nat_lit 0)), .sc (.slice none (nat_lit 0) (nat_lit 0)),
  .sc (.slice none (nat_lit 0) (nat_lit 0)), .sc (.slice none (nat_lit 0) (nat_lit 0)), .sc (.slice none (nat_lit 0) (nat_lit 0)), .sc (.slice none (nat_lit 0) (nat_lit 0)), .sc (.string ⟨#[]⟩), .sc (.string ⟨#[]⟩), .sc (.slice none (nat_lit 0) (nat_lit 0)), .sc (.slice none (nat_lit 0) (nat_lit 0)), rowS e.en, rowS e.dis, .sc (.string ⟨#[]⟩), .sc (.int .u64 (.ofNat 0))]
inductive It
  | w (k : Int) (r : List PV)
  | e (x : En)
def It.cells : It → List PV
  | .w k r => .sc (.int .i64 k) :: r
  | .e x => x.cells
def It.P (i : It) : PV := .ag i.cells
def It.ok : It → Prop
  | .w k r => (r.length = 31 ∧ k ≠ .ofNat 8) ∧ (r.map AV.p).all cell1 = true
  | .e x => x.en.length ≤ 100
def It.wt : It → Nat
  | .w _ _ => 0
  | .e x => x.dis.length
def wS (l : List It) : Nat := (l.map It.wt).sum
def addS (l : List Sy) (x : Sy) : List Sy := bif l.any (fun t => t.eq x) then l else l ++ [x]
def addAll (l ds : List Sy) : List Sy := ds.foldl addS l
def keepS (x : En) (l : List Sy) : List Sy := l.filter fun t => !(x.en.any fun u => u.eq t)
def It.dis : It → List Sy → List Sy
  | .w _ _, l => l
  | .e x, l => addAll (keepS x l) x.dis
def disAll (its : List It) (l : List Sy) : List Sy := its.foldl (fun l i => i.dis l) l
def Res (x : CV) (l : List Sy) : Prop := ∃ k K, x = some (rowO l k, ⟨[], K⟩)
theorem wS_cons (x : It) (r : List It) : wS (x :: r) = x.wt + wS r := by simp [wS]
theorem keepS_cons (x : En) (t : Sy) (l : List Sy) : keepS x (t :: l) = bif x.en.any (fun u => u.eq t) then keepS x l else t :: keepS x l := by
  unfold keepS
  rw [List.filter_cons]
  cases x.en.any fun u => u.eq t <;> rfl
theorem keepS_len (x : En) (l : List Sy) : (keepS x l).length ≤ l.length := List.length_filter_le _ _
theorem addS_len (l : List Sy) (x : Sy) : (addS l x).length ≤ l.length + 1 := by
  unfold addS
  cases l.any fun t => t.eq x <;> simp
theorem len36 {α : Type} (xs : List PV) (κ : Int → Option α) : jLen Tryz.prog 36 (.av (.p (.tr 32 xs))) κ = κ (.ofNat xs.length) := by
  have h : jLen Tryz.prog 36 (.av (.p (.tr 32 xs))) κ = jLenR (.p (.tr 32 xs)) (jG ((alen Tryz.prog 36 (.p (.tr 32 xs))).map (·, ⟨[], []⟩)) false fun v _ => asI .i64 v κ) κ := by kernel_rfl
  rw [h]
  show (fM xs.length fun n => κ (.ofNat n)) = _
  exact fM_eq _ _
theorem at36 {α : Type} (its : List It) (j : Nat) (x : It) (κ : AV → Option α) (h : its[j]? = some x) : jIndexAddr 32 (.p (.tr 32 (its.map It.P))) (.ofNat j) κ = κ (.ipt x.cells) := by
  show nthL (its.map It.P) j (fun y => jEl y κ) = _
  rw [nthL_eq, List.getElem?_map, h]
  exact fLs_eq _ _
theorem store_box {α : Type} (n : Nat) (z cs : List AV) (K : List (Nat × Nat)) (κ : St → Option α) (hz : z.length = n + 1) (hc : cs.length = n + 1) (h1 : cs.all cell1 = true) : jStore (n + 1) ⟨[z], K⟩ (.ptr 0 0) (.ag cs) κ = κ ⟨[cs], K⟩ := by
  show all1 cs (n + 1) (Bool.rec (motive := fun _ => Option α) none (segB z 0 cs fun l => κ ⟨[l], K⟩) (Nat.ble 1 (n + 1))) = _
  rw [all1_eq, if_pos ⟨h1, hc⟩, show Nat.ble 1 (n + 1) = true from Nat.ble_eq_true_of_le (by omega)]
  show segB z 0 cs (fun l => κ ⟨[l], K⟩) = _
  rw [segB_eq _ _ _ _ (by omega), if_pos (by omega)]
  rw [show List.drop (0 + cs.length) z = [] from List.drop_eq_nil_of_le (by omega)]
  simp
theorem cell_rowS (l : List Sy) : cell1 (.p (rowS l)) = true := by cases l <;> rfl
theorem cells_one (x : En) : (x.cells.map AV.p).all cell1 = true := by
  simp only [En.cells, List.map_cons, List.map_nil, List.all_cons, cell_rowS, List.all_nil]
  rfl
theorem jCall_at {α : Type} {call : ACall} {g : FuncId} {xs : List AV} {st st' : St} {v : AV} (κ : AV → St → Option α) (h : call g xs st = some (v, st')) : jCall call g xs st κ = κ v st' := by
  unfold jCall
  rw [h]
theorem app_row2 (H : List (List AV)) (K : List (Nat × Nat)) (l : List Sy) (k : Nat) (x : Sy) (hk : tokK K l k) (hl : l.length < 1000000) :
    ∃ k' K', tokK K' (l ++ [x]) k' ∧ K.length ≤ K'.length ∧ k' < K'.length ∧ (∀ q, q ≠ k → q < K.length → K'[q]? = K[q]?) ∧ (l = [] → k' = K.length ∧ ∀ q, q < K.length → K'[q]? = K[q]?) ∧ (l ≠ [] → k' = k) ∧ ∀ (α : Type) (κ : AV → St → Option α), jApp Tryz.prog 26 26 ⟨H, K⟩ (rowO l k) (.fl 2 [x.P]) κ = κ (rowO (l ++ [x]) k') ⟨H, K'⟩ := by
  cases l with
  | nil => exact ⟨K.length, K ++ [(1, 2)], .inr (by simp), by simp, by simp, fun q _ hq => by rw [List.getElem?_append_left hq], fun _ => ⟨rfl, fun q hq => by rw [List.getElem?_append_left hq]⟩, fun h => absurd rfl h, fun α κ => app_nil H K x.P κ⟩
  | cons y r =>
    rcases hk with h | h
    · cases h
    · have hlt := (List.getElem?_eq_some_iff.1 h).1
      refine ⟨k, K.set k ((y :: r).length + 1, 2), .inr ?_, by simp, by simpa using hlt, fun q hq _ => by rw [List.getElem?_set_ne (Ne.symm hq)], fun h => (by cases h), fun _ => rfl, fun α κ => ?_⟩
      · simp [hlt]
      · have := app_own H K ((y :: r).map Sy.P).reverse k x.P κ (by simpa using h) (by simpa using hl)
        show jApp Tryz.prog 26 26 ⟨H, K⟩ (.own 2 ((y :: r).map Sy.P).reverse k) (.fl 2 [x.P]) κ = _
        rw [this]
        simp [rowO]
theorem dis18 (m n : Nat) (hn : n = m + 1) (its : List It) (hok : ∀ i ∈ its, i.ok) (hl : its.length < m) (hm : 200 < m) (hm' : m < 100000) (hw : wS its ≤ 100) :
    Res (R18 (jmix jt S6 n) n (.p (.tr 32 (its.map It.P))) ⟨[], []⟩) (disAll its []) := by
  unfold R18
  refine loopQ (σ := AV → AV → Int → St → CV) (len := its.length) (fun j f => ∀ l k K, tokK K l k → l.length + wS (its.drop j) ≤ 100 → Res (f (.p (.tr 32 (its.map It.P))) (rowO l k) (.ofNat j) ⟨[], K⟩) (disAll (its.drop j) l))
    (fun ih j hj hih l k K hk hb => ?_) n 0 (Nat.zero_le _) (by omega) [] 0 [] (.inl rfl) (by simpa using hw)
  show Res (jLen Tryz.prog 36 (.av (.p (.tr 32 (its.map It.P)))) _) _
  rw [len36, lt_eq, List.length_map]
  by_cases hj' : j < its.length
  · obtain ⟨x, hx, hd⟩ := drop_cons hj'
    have hxm : x ∈ its := List.mem_of_getElem? hx
    have hxo := hok x hxm
    rw [hd, wS_cons] at hb
    rw [hd]
    simp only [hj', decide_true]
    show Res (jIndexAddr 32 (.p (.tr 32 (its.map It.P))) (.ofNat j) _) _
    rw [at36 its j x _ hx]
    cases x with
    | w kk r =>
      show Res (jIf (notB (eqZ kk (.ofNat 8))) _ _) _
      have h8 : eqZ kk (.ofNat 8) = false := by rw [eqZ_eq]; exact decide_eq_false hxo.1.2
      rw [h8]
      show Res (wrapK .i64 (addZ (.ofNat j) (.ofNat 1)) _) _
      rw [next j (by omega)]
      exact hih hj' l k K hk (by omega)
    | e x =>
      have hbx : l.length + (x.dis.length + wS (its.drop (j + 1))) ≤ 100 := hb
      show Res (jLoop (σ := AV → AV → Int → AV → Int → St → CV) _ _ n (.p (.tr 32 (its.map It.P))) (rowO l k) (.ofNat j) (rowO [] 0) (.ofNat 0) ⟨[], K⟩) (disAll (its.drop (j + 1)) (addAll ([] ++ keepS x (l.drop 0)) x.dis))
      refine loopQ (σ := AV → AV → Int → AV → Int → St → CV) (len := l.length) (fun q f => ∀ n' k' K', tokK K' n' k' → n'.length + (l.drop q).length + (x.dis.length + wS (its.drop (j + 1))) ≤ 100 →
          Res (f (.p (.tr 32 (its.map It.P))) (rowO l k) (.ofNat j) (rowO n' k') (.ofNat q) ⟨[], K'⟩) (disAll (its.drop (j + 1)) (addAll (n' ++ keepS x (l.drop q)) x.dis)))
        (fun ih1 q hq hih1 n' k' K' hk' hb' => ?_) n 0 (Nat.zero_le _) (by omega) [] 0 K (.inl rfl) (by simpa using hbx)
      show Res (jLen Tryz.prog 26 (.av (rowO l k)) _) _
      rw [len_own, lt_eq]
      by_cases hq' : q < l.length
      · obtain ⟨t, ht, htd⟩ := drop_cons hq'
        rw [htd] at hb'
        rw [htd, keepS_cons]
        simp only [hq', decide_true]
        show Res (jIndexAddr 32 (.p (.tr 32 (its.map It.P))) (.ofNat j) _) _
        rw [at36 its j (.e x) _ hx]
        show Res (jIndexAddr 2 (rowO l k) (.ofNat q) _) _
        rw [at_own l k q t _ ht, sy_load]
        have hen : x.en.length ≤ 100 := hxo
        rw [jCall_at (call := pcall keep (jmix jt S6 n)) _ (by rw [hn]; exact pcall42 x.en t ⟨[], K'⟩ m (by omega) (by omega))]
        simp only [List.length_cons] at hb'
        cases hany : x.en.any fun u => u.eq t with
        | true =>
          show Res (wrapK .i64 (addZ (.ofNat q) (.ofNat 1)) _) _
          rw [next q (by omega)]
          exact hih1 hq' n' k' K' hk' (by omega)
        | false =>
          show Res (jIndexAddr 2 (rowO l k) (.ofNat q) _) _
          rw [at_own l k q t _ ht, sy_load]
          show Res (jApp Tryz.prog 26 26 ⟨[], K'⟩ (rowO n' k') (.fl 2 [t.P]) _) _
          obtain ⟨k2, K2, hk2, _, _, _, _, _, e⟩ := app_row2 [] K' n' k' t hk' (by omega)
          rw [e]
          show Res (wrapK .i64 (addZ (.ofNat q) (.ofNat 1)) _) _
          rw [next q (by omega)]
          have := hih1 hq' (n' ++ [t]) k2 K2 hk2 (by simp only [List.length_append, List.length_cons, List.length_nil]; omega)
          rw [List.append_assoc] at this
          exact this
      · have : q = l.length := by omega
        subst this
        simp only [Nat.lt_irrefl, decide_false, List.drop_length]
        have hn0 : n' ++ keepS x [] = n' := by simp [keepS]
        rw [hn0]
        show Res (jLoop (σ := AV → Int → AV → Int → St → CV) _ _ n (.p (.tr 32 (its.map It.P))) (.ofNat j) (rowO n' k') (.ofNat 0) ⟨[], K'⟩) (disAll (its.drop (j + 1)) (addAll n' (x.dis.drop 0)))
        simp only [List.drop_length, List.length_nil, Nat.add_zero] at hb'
        refine loopQ (σ := AV → Int → AV → Int → St → CV) (len := x.dis.length) (fun q f => ∀ n' k' K', tokK K' n' k' → n'.length + ((x.dis.drop q).length + wS (its.drop (j + 1))) ≤ 100 →
            Res (f (.p (.tr 32 (its.map It.P))) (.ofNat j) (rowO n' k') (.ofNat q) ⟨[], K'⟩) (disAll (its.drop (j + 1)) (addAll n' (x.dis.drop q))))
          (fun ih2 q hq hih2 n' k' K' hk' hb' => ?_) n 0 (Nat.zero_le _) (by omega) n' k' K' hk' (by simpa using hb')
        show Res (jIndexAddr 32 (.p (.tr 32 (its.map It.P))) (.ofNat j) _) _
        rw [at36 its j (.e x) _ hx]
        show Res (jLen Tryz.prog 26 (.av (.p (rowS x.dis))) _) _
        rw [len_row, lt_eq]
        by_cases hq' : q < x.dis.length
        · obtain ⟨t, ht, htd⟩ := drop_cons hq'
          rw [htd] at hb'
          rw [htd]
          simp only [hq', decide_true]
          simp only [List.length_cons] at hb'
          show Res (jIndexAddr 32 (.p (.tr 32 (its.map It.P))) (.ofNat j) _) _
          rw [at36 its j (.e x) _ hx]
          show Res (jIndexAddr 2 (.p (rowS x.dis)) (.ofNat q) _) _
          rw [at_row x.dis q t _ ht, sy_load, jCall_at (call := jmix jt S6 n) _ (by rw [hn]; exact call42o n' k' t ⟨[], K'⟩ m (by omega) (by omega))]
          cases hany : n'.any fun u => u.eq t with
          | true =>
            show Res (wrapK .i64 (addZ (.ofNat q) (.ofNat 1)) _) _
            rw [next q (by omega)]
            have := hih2 hq' n' k' K' hk' (by omega)
            have e : addAll n' (t :: x.dis.drop (q + 1)) = addAll n' (x.dis.drop (q + 1)) := by
              show addAll (addS n' t) _ = _
              rw [addS, hany]
              rfl
            rw [e]
            exact this
          | false =>
            show Res (jIndexAddr 32 (.p (.tr 32 (its.map It.P))) (.ofNat j) _) _
            rw [at36 its j (.e x) _ hx]
            show Res (jIndexAddr 2 (.p (rowS x.dis)) (.ofNat q) _) _
            rw [at_row x.dis q t _ ht, sy_load]
            show Res (jApp Tryz.prog 26 26 ⟨[], K'⟩ (rowO n' k') (.fl 2 [t.P]) _) _
            obtain ⟨k2, K2, hk2, _, _, _, _, _, e⟩ := app_row2 [] K' n' k' t hk' (by omega)
            rw [e]
            show Res (wrapK .i64 (addZ (.ofNat q) (.ofNat 1)) _) _
            rw [next q (by omega)]
            have := hih2 hq' (n' ++ [t]) k2 K2 hk2 (by simp only [List.length_append, List.length_cons, List.length_nil]; omega)
            have e : addAll n' (t :: x.dis.drop (q + 1)) = addAll (n' ++ [t]) (x.dis.drop (q + 1)) := by
              show addAll (addS n' t) _ = _
              rw [addS, hany]
              rfl
            rw [e]
            exact this
        · have : q = x.dis.length := by omega
          subst this
          simp only [Nat.lt_irrefl, decide_false, List.drop_length]
          show Res (wrapK .i64 (addZ (.ofNat j) (.ofNat 1)) _) _
          rw [next j (by omega)]
          simp only [List.drop_length, List.length_nil] at hb'
          exact hih hj' n' k' K' hk' (by omega)
  · have : j = its.length := by omega
    subst this
    simp only [Nat.lt_irrefl, decide_false, List.drop_length]
    exact ⟨k, K, rfl⟩
end Go.Proofs.YtofagfhccgfgmaaGreatDoor.Wo
/- rule.Disabled on rows of entries. -/
set_option maxRecDepth 100000
namespace Go.Proofs.YtofagfhccgfgmaaGreatDoor.Wo
open Go Go.RowKit Go.Proofs.Ab Go.Proofs.YtofagfhccgfgmaaGreatDoor.Tab
def tokR (K : List (Nat × Nat)) (l : List Sy) (k : Nat) : Prop := l = [] ∨ k < K.length
theorem tokK.r {K : List (Nat × Nat)} {l : List Sy} {k : Nat} (h : tokK K l k) : tokR K l k := by
  rcases h with h | h
  · exact .inl h
  · exact .inr (List.getElem?_eq_some_iff.1 h).1
theorem tokR.mono {K K' : List (Nat × Nat)} {l : List Sy} {k : Nat} (h : tokR K l k) (hK : K.length ≤ K'.length) : tokR K' l k := by
  rcases h with h | h
  · exact .inl h
  · exact .inr (Nat.lt_of_lt_of_le h hK)
theorem sane_row {α : Type} (n : Nat) (K : List (Nat × Nat)) (l : List Sy) (k : Nat) (κ : AV → Option α) (h : tokR K l k) : saneK n K.length (rowO l k) κ = κ (rowO l k) := by
  rw [saneK_eq]
  cases l with
  | nil => rfl
  | cons x r =>
    rcases h with h | h
    · cases h
    · rw [rowO, sane]
      have : Nat.blt k K.length = true := Nat.ble_eq_true_of_le h
      rw [this]
      rfl
theorem take_all {α : Type} (K : List (Nat × Nat)) (κ : List (Nat × Nat) → Option α) : takeA (fun x => x) K K.length κ = κ K := by
  rw [takeA_eq]
  simp
theorem fM_at {α : Type} (n : Nat) (κ : Nat → α) : fM n κ = κ n := fM_eq n κ
theorem sanes_p (n m : Nat) : ∀ l : List PV, sanes n m (l.map .p) = l.map .p
  | [] => by simp [sanes]
  | x :: r => by rw [List.map_cons, sanes, sanes_p n m r, sane]
theorem load_it {α : Type} (cs : List PV) (st : St) (κ : AV → Option α) (h : cs.length = 32) : jLoadN 32 st (.ipt cs) κ = κ (.ag (cs.map .p)) := by
  show takeA AV.p cs 32 (fun l => κ (.ag l)) = _
  rw [takeA_eq, if_pos (by omega), ← h, List.take_length]
theorem store_it {α : Type} (z cs : List AV) (K : List (Nat × Nat)) (κ : St → Option α) (hz : z.length = 32) (hc : cs.length = 32) (h1 : cs.all cell1 = true) : jStore 32 ⟨[z], K⟩ (.ptr 0 0) (.ag cs) κ = κ ⟨[cs], K⟩ := store_box 31 z cs K κ hz hc h1
theorem store_sym {α : Type} (c : List AV) (e1 e2 : AV) (K : List (Nat × Nat)) (t : Sy) (κ : St → Option α) : jStore 2 ⟨[c, [e1, e2]], K⟩ (.ptr 1 0) t.V κ = κ ⟨[c, [.p (.st t.a t.b), .p (.st t.c t.d)]], K⟩ := rfl
theorem load28 {α : Type} (x : En) (s : List AV) (K : List (Nat × Nat)) (κ : AV → Option α) : jLoad1 ⟨[x.cells.map .p, s], K⟩ (.ptr 0 28) κ = κ (.p (rowS x.en)) := rfl
theorem jIf_f {α : Type} (a b : Option α) : jIf false a b = b := rfl
theorem jIf_t {α : Type} (a b : Option α) : jIf true a b = a := rfl
theorem fa28 {α : Type} (κ : AV → Option α) : jFieldAddr 28 (.ptr 0 0) κ = κ (.ptr 0 28) := rfl
theorem fa29 {α : Type} (κ : AV → Option α) : jFieldAddr 29 (.ptr 0 0) κ = κ (.ptr 0 29) := rfl
theorem unbox2 {α : Type} (c : List AV) (K : List (Nat × Nat)) (t : Sy) (κ : AV → Option α) : jLoadN 2 ⟨[c, [.p (.st t.a t.b), .p (.st t.c t.d)]], K⟩ (.ptr 1 0) κ = κ t.V := rfl
theorem asB_at {α : Type} (b : Bool) (κ : Bool → Option α) : asB (.p (.sc (.bool b))) κ = κ b := rfl
theorem elem2 {α : Type} (t : Sy) (κ : PV → Option α) : elemA 2 t.V κ = κ t.P := rfl
theorem nB_t : notB true = false := rfl
theorem jJoin_at {σ : Type} {α : Type} (f : σ) (body : σ → Option α) : jJoin f body = body f := rfl
theorem saneK_p {α : Type} (n m : Nat) (x : PV) (κ : AV → Option α) : saneK n m (.p x) κ = κ (.p x) := rfl
theorem saneK_ptr {α : Type} (m : Nat) (κ : AV → Option α) : saneK 1 m (.ptr 0 0) κ = κ (.ptr 0 0) := rfl
theorem cut_nil {α : Type} (m : Nat) (c : List AV) (κ : List (List AV) → Option α) : cutR 0 m [c] κ = κ [] := rfl
theorem cut_one {α : Type} (m : Nat) (c : List PV) (s : List AV) (κ : List (List AV) → Option α) : cutR 1 m [c.map .p, s] κ = κ [c.map .p] := by
  rw [cutR_eq, List.take_succ_cons, List.take_zero, List.map_cons, List.map_nil, sanes_p]
theorem call41o (l : List Sy) (k : Nat) (x : Sy) (st : St) (n : Nat) (hl : l.length < 1000000) (hn : l.length < n) : jmix jt S6 (n + 1) 41 [rowO l k, x.V] st = some (.p (.sc (.bool (l.any fun t => t.eq x))), st) := by
  cases l with
  | nil => exact call41 [] x st n hl hn
  | cons y r =>
    show jmix jt S6 (n + 1) 41 [.own 2 ((y :: r).map Sy.P).reverse k, x.V] st = _
    have hs : strips [.own 2 ((y :: r).map Sy.P).reverse k, x.V] = [.p (rowS (y :: r)), x.V] := strips_rowO (y :: r) k x
    generalize ((y :: r).map Sy.P).reverse = xs at hs ⊢
    have e : ∀ (c : ACall), jcallStep jt c n 41 [.own 2 xs k, x.V] st = stripsR [.own 2 xs k, x.V] fun ys => Bool.rec (motive := fun _ => CV)
        (jbodyK (fun call n xs s => args2 (fun x0 x1 => R41 call n x0 x1 s) xs) c n [.own 2 xs k, x.V] st fun v st' => inR false st.H.length st.K.length v st')
        (jbodyK (fun call n xs s => args2 (fun x0 x1 => R41 call n x0 x1 s) xs) c n ys ⟨[], []⟩ (backR false st)) (plainDs ys) := by
      intro c
      kernel_rfl
    have h0 : S6 41 [.own 2 xs k, x.V] st = none := by kernel_rfl
    obtain ⟨st', h⟩ := has41 (jmix jt S6 n) n (y :: r) x hl hn
    rw [g6_at 41 _ st n h0, e, stripsR_eq, hs]
    show Option.rec (motive := fun _ => CV) none (fun y => Prod.rec (motive := fun _ => CV) (fun v s => fzR 0 0 v s (backR false st)) y) (R41 (jmix jt S6 n) n (.p (rowS (y :: r))) x.V ⟨[], []⟩) = _
    rw [h]
    rfl
theorem dis17 (m n : Nat) (hn : n = m + 1) (its : List It) (hok : ∀ i ∈ its, i.ok) (hl : its.length < m) (hm : 200 < m) (hm' : m < 100000) (hw : wS its ≤ 100) :
    Res (R17 (jmix jt S6 n) n (.p (.tr 32 (its.map It.P))) ⟨[], []⟩) (disAll its []) := by
  unfold R17
  rw [len36, List.length_map]
  show Res (jLoop (σ := AV → AV → Int → Int → St → CV) _ _ n (rowO [] 0) (.p (.tr 32 (its.map It.P))) (.ofNat its.length) (.ofNat 0) ⟨[], []⟩) (disAll (its.drop 0) [])
  refine loopQ (σ := AV → AV → Int → Int → St → CV) (len := its.length) (fun j f => ∀ l k K, tokK K l k → l.length + wS (its.drop j) ≤ 100 → Res (f (rowO l k) (.p (.tr 32 (its.map It.P))) (.ofNat its.length) (.ofNat j) ⟨[], K⟩) (disAll (its.drop j) l))
    (fun ih j hj hih l k K hk hb => ?_) n 0 (Nat.zero_le _) (by omega) [] 0 [] (.inl rfl) (by simpa using hw)
  rw [lt_eq]
  by_cases hj' : j < its.length
  · obtain ⟨x, hx, hd⟩ := drop_cons hj'
    have hxm : x ∈ its := List.mem_of_getElem? hx
    have hxo := hok x hxm
    rw [hd, wS_cons] at hb
    rw [hd]
    simp only [hj', decide_true]
    show Res (jIndexAddr 32 (.p (.tr 32 (its.map It.P))) (.ofNat j) _) _
    rw [at36 its j x _ hx]
    cases x with
    | w kk r =>
      obtain ⟨⟨hr, h8⟩, hc⟩ := hxo
      have h8 : eqZ kk (.ofNat 8) = false := by rw [eqZ_eq]; exact decide_eq_false h8
      match r, hr with
      | [c1, c2, c3, c4, c5, c6, c7, c8, c9, c10, c11, c12, c13, c14, c15, c16, c17, c18, c19, c20, c21, c22, c23, c24, c25, c26, c27, c28, c29, c30, c31], _ =>
      show Res (jLoadN 32 _ (.ipt (It.w kk [c1, c2, c3, c4, c5, c6, c7, c8, c9, c10, c11, c12, c13, c14, c15, c16, c17, c18, c19, c20, c21, c22, c23, c24, c25, c26, c27, c28, c29, c30, c31]).cells) _) _
      rw [load_it _ _ _ rfl, fM_at, store_it _ _ K _ rfl rfl (by exact hc)]
      show Res (jIf (notB (eqZ kk (.ofNat 8))) _ _) _
      rw [h8]
      show Res (wrapK .i64 (addZ (.ofNat j) (.ofNat 1)) _) _
      rw [next j (by omega)]
      show Res (jIf false _ _) _
      rw [jIf_f]
      dsimp only
      rw [fM_at, sane_row 0 K l k _ hk.r, saneK_p, cut_nil, take_all]
      exact hih hj' l k K hk (by omega)
    | e x =>
      have hbx : l.length + (x.dis.length + wS (its.drop (j + 1))) ≤ 100 := hb
      have hen : x.en.length ≤ 100 := hxo
      show Res (jLoadN 32 _ (.ipt x.cells) _) _
      rw [load_it _ _ _ rfl, fM_at, store_it _ _ K _ rfl rfl (cells_one x)]
      show Res (jLen Tryz.prog 26 (.av (rowO l k)) _) _
      rw [len_own]
      show Res (jLoop (σ := AV → AV → AV → Int → Int → AV → Int → Int → St → CV) _ _ n (.ptr 0 0) (rowO [] 0) (.p (.tr 32 (its.map It.P))) (.ofNat its.length) (.ofNat j) (rowO l k) (.ofNat l.length) (.ofNat 0) ⟨[x.cells.map .p], K⟩) (disAll (its.drop (j + 1)) (addAll ([] ++ keepS x (l.drop 0)) x.dis))
      refine loopQ (σ := AV → AV → AV → Int → Int → AV → Int → Int → St → CV) (len := l.length) (fun q f => ∀ n' k' K', tokK K' n' k' → tokR K' l k → n'.length + (l.drop q).length + (x.dis.length + wS (its.drop (j + 1))) ≤ 100 →
          Res (f (.ptr 0 0) (rowO n' k') (.p (.tr 32 (its.map It.P))) (.ofNat its.length) (.ofNat j) (rowO l k) (.ofNat l.length) (.ofNat q) ⟨[x.cells.map .p], K'⟩) (disAll (its.drop (j + 1)) (addAll (n' ++ keepS x (l.drop q)) x.dis)))
        (fun ih1 q hq hih1 n' k' K' hk' hr' hb' => ?_) n 0 (Nat.zero_le _) (by omega) [] 0 K (.inl rfl) hk.r (by simpa using hbx)
      rw [lt_eq]
      by_cases hq' : q < l.length
      · obtain ⟨t, ht, htd⟩ := drop_cons hq'
        rw [htd] at hb'
        rw [htd, keepS_cons]
        simp only [hq', decide_true]
        simp only [List.length_cons] at hb'
        show Res (jIndexAddr 2 (rowO l k) (.ofNat q) _) _
        rw [at_own l k q t _ ht, sy_load]
        rw [fM_at]
        show Res (jStore 2 ⟨[x.cells.map .p, [_, _]], K'⟩ (.ptr 1 0) t.V _) _
        rw [store_sym]
        rw [fa28, load28, unbox2]
        rw [jCall_at (call := jmix jt S6 n) _ (by rw [hn]; exact call41 x.en t _ m (by omega) (by omega))]
        cases hany : x.en.any fun u => u.eq t with
        | true =>
          show Res (wrapK .i64 (addZ (.ofNat q) (.ofNat 1)) _) _
          rw [next q (by omega)]
          show Res (jIf false _ _) _
          rw [jIf_f]
          dsimp only
          rw [fM_at, saneK_ptr, sane_row 1 K' n' k' _ hk'.r, saneK_p, sane_row 1 K' l k _ hr', cut_one, take_all]
          exact hih1 hq' n' k' K' hk' hr' (by omega)
        | false =>
          show Res (jApp Tryz.prog 26 26 ⟨[x.cells.map .p, [.p (.st t.a t.b), .p (.st t.c t.d)]], K'⟩ (rowO n' k') (.fl 2 [t.P]) _) _
          obtain ⟨k2, K2, hk2, hlen, _, _, _, _, e⟩ := app_row2 [x.cells.map .p, [.p (.st t.a t.b), .p (.st t.c t.d)]] K' n' k' t hk' (by omega)
          rw [e]
          show Res (wrapK .i64 (addZ (.ofNat q) (.ofNat 1)) _) _
          rw [next q (by omega)]
          show Res (jIf false _ _) _
          rw [jIf_f]
          dsimp only
          rw [fM_at, saneK_ptr, sane_row 1 K2 (n' ++ [t]) k2 _ hk2.r, saneK_p, sane_row 1 K2 l k _ (hr'.mono hlen), cut_one, take_all]
          have := hih1 hq' (n' ++ [t]) k2 K2 hk2 (hr'.mono hlen) (by simp only [List.length_append, List.length_cons, List.length_nil]; omega)
          rw [List.append_assoc] at this
          exact this
      · have : q = l.length := by omega
        subst this
        simp only [Nat.lt_irrefl, decide_false, List.drop_length]
        have hn0 : n' ++ keepS x [] = n' := by simp [keepS]
        rw [hn0]
        show Res (jLen Tryz.prog 26 (.av (.p (rowS x.dis))) _) _
        rw [len_row]
        show Res (jLoop (σ := AV → AV → Int → Int → AV → Int → Int → St → CV) _ _ n (rowO n' k') (.p (.tr 32 (its.map It.P))) (.ofNat its.length) (.ofNat j) (.p (rowS x.dis)) (.ofNat x.dis.length) (.ofNat 0) ⟨[x.cells.map .p], K'⟩) (disAll (its.drop (j + 1)) (addAll n' (x.dis.drop 0)))
        simp only [List.drop_length, List.length_nil, Nat.add_zero] at hb'
        refine loopQ (σ := AV → AV → Int → Int → AV → Int → Int → St → CV) (len := x.dis.length) (fun q f => ∀ n' k' K', tokK K' n' k' → n'.length + ((x.dis.drop q).length + wS (its.drop (j + 1))) ≤ 100 →
            Res (f (rowO n' k') (.p (.tr 32 (its.map It.P))) (.ofNat its.length) (.ofNat j) (.p (rowS x.dis)) (.ofNat x.dis.length) (.ofNat q) ⟨[x.cells.map .p], K'⟩) (disAll (its.drop (j + 1)) (addAll n' (x.dis.drop q))))
          (fun ih2 q hq hih2 n' k' K' hk' hb' => ?_) n 0 (Nat.zero_le _) (by omega) n' k' K' hk' (by simpa using hb')
        rw [lt_eq]
        by_cases hq' : q < x.dis.length
        · obtain ⟨t, ht, htd⟩ := drop_cons hq'
          rw [htd] at hb'
          rw [htd]
          simp only [hq', decide_true]
          simp only [List.length_cons] at hb'
          show Res (jIndexAddr 2 (.p (rowS x.dis)) (.ofNat q) _) _
          rw [at_row x.dis q t _ ht, sy_load]
          rw [fM_at]
          show Res (jStore 2 ⟨[x.cells.map .p, [_, _]], K'⟩ (.ptr 1 0) t.V _) _
          rw [store_sym]
          rw [unbox2]
          rw [jCall_at (call := jmix jt S6 n) _ (by rw [hn]; exact call41o n' k' t _ m (by omega) (by omega))]
          cases hany : n'.any fun u => u.eq t with
          | true =>
            show Res (wrapK .i64 (addZ (.ofNat q) (.ofNat 1)) _) _
            rw [next q (by omega)]
            show Res (jIf false _ _) _
            rw [jIf_f]
            dsimp only
            rw [fM_at, sane_row 1 K' n' k' _ hk'.r, saneK_p, saneK_p, cut_one, take_all]
            have := hih2 hq' n' k' K' hk' (by omega)
            have e : addAll n' (t :: x.dis.drop (q + 1)) = addAll n' (x.dis.drop (q + 1)) := by
              show addAll (addS n' t) _ = _
              rw [addS, hany]
              rfl
            rw [e]
            exact this
          | false =>
            show Res (jApp Tryz.prog 26 26 ⟨[x.cells.map .p, [.p (.st t.a t.b), .p (.st t.c t.d)]], K'⟩ (rowO n' k') (.fl 2 [t.P]) _) _
            obtain ⟨k2, K2, hk2, _, _, _, _, _, e⟩ := app_row2 [x.cells.map .p, [.p (.st t.a t.b), .p (.st t.c t.d)]] K' n' k' t hk' (by omega)
            rw [e]
            show Res (wrapK .i64 (addZ (.ofNat q) (.ofNat 1)) _) _
            rw [next q (by omega)]
            show Res (jIf false _ _) _
            rw [jIf_f]
            dsimp only
            rw [fM_at, sane_row 1 K2 (n' ++ [t]) k2 _ hk2.r, saneK_p, saneK_p, cut_one, take_all]
            have := hih2 hq' (n' ++ [t]) k2 K2 hk2 (by simp only [List.length_append, List.length_cons, List.length_nil]; omega)
            have e : addAll n' (t :: x.dis.drop (q + 1)) = addAll (n' ++ [t]) (x.dis.drop (q + 1)) := by
              show addAll (addS n' t) _ = _
              rw [addS, hany]
              rfl
            rw [e]
            exact this
        · have : q = x.dis.length := by omega
          subst this
          simp only [Nat.lt_irrefl, decide_false, List.drop_length]
          show Res (wrapK .i64 (addZ (.ofNat j) (.ofNat 1)) _) _
          rw [next j (by omega)]
          show Res (jIf false _ _) _
          rw [jIf_f]
          rw [fM_at, sane_row 0 K' n' k' _ hk'.r, saneK_p, cut_nil, take_all]
          simp only [List.drop_length, List.length_nil] at hb'
          exact hih hj' n' k' K' hk' (by omega)
  · have : j = its.length := by omega
    subst this
    simp only [Nat.lt_irrefl, decide_false, List.drop_length]
    exact ⟨k, K, rfl⟩
end Go.Proofs.YtofagfhccgfgmaaGreatDoor.Wo
/- theories of law 28: entries after those of a world. PRINTED by rt6.py. -/
set_option maxRecDepth 1000000
namespace Go.Proofs.YtofagfhccgfgmaaGreatDoor.Wo
open Go Go.RowKit Go.Proofs.Ab Go.Proofs.YtofagfhccgfgmaaGreatDoor.Tab
def namesL : List Sy := [⟨4, 1886611820, 3, 7496035⟩, ⟨4, 1886611820, 3, 7496803⟩, ⟨4, 1886611820, 4, 1936617315⟩, ⟨4, 1886611820, 5, 482972954467⟩, ⟨4, 1886611820, 3, 7630702⟩, ⟨4, 1886611820, 5, 465491554661⟩, ⟨4, 1886611820, 2, 26217⟩, ⟨4, 1886611820, 8, 3111276449750739298⟩, ⟨4, 1886611820, 1, 60⟩, ⟨4, 1886611820, 8, 8102650174351109737⟩, ⟨4, 1886611820, 3, 7234924⟩, ⟨4, 1886611820, 13, 7956982234992646598644298836322⟩, ⟨4, 1886611820, 3, 7759218⟩, ⟨4, 1886611820, 10, 531053184691079719776884⟩, ⟨4, 1886611820, 4, 1886675310⟩, ⟨4, 1886611820, 4, 1886613360⟩, ⟨4, 1886611820, 7, 12716373585260149⟩, ⟨4, 1886611820, 8, 3039218855712811362⟩, ⟨4, 1886611820, 7, 32481125787004265⟩, ⟨4, 1886611820, 7, 31644423040104819⟩, ⟨4, 1886611820, 9, 2073844980909096591730⟩, ⟨4, 1886611820, 3, 7891302⟩, ⟨4, 1886611820, 3, 6710889⟩, ⟨4, 1886611820, 4, 2020173422⟩, ⟨4, 1886611820, 2, 28794⟩, ⟨4, 1919251317, 3, 6452580⟩, ⟨4, 1919251317, 8, 7954883259050844531⟩, ⟨4, 1919251317, 5, 495840747888⟩, ⟨4, 1919251317, 4, 1935832420⟩, ⟨4, 1919251317, 4, 1701147252⟩, ⟨4, 1919251317, 5, 495773382245⟩, ⟨4, 1919251317, 4, 1935959151⟩, ⟨4, 1919251317, 4, 846360440⟩, ⟨4, 1919251317, 8, 8317708033554800995⟩, ⟨4, 1919251317, 8, 8317708033554801763⟩, ⟨4, 1919251317, 10, 511960427389804621099105⟩, ⟨4, 1919251317, 13, 7956982234992646575537442025569⟩, ⟨4, 1919251317, 13, 9142637465062889202485265001584⟩, ⟨4, 1919251317, 15, 260536693996370769484804928033877104⟩, ⟨4, 1919251317, 10, 474273099600830470710636⟩, ⟨4, 1919251317, 11, 138296409776066645308892524⟩, ⟨4, 1919251317, 16, 134866857477203892207031548729166292332⟩, ⟨4, 1919251317, 9, 2074421441378049552240⟩, ⟨4, 1919251317, 13, 8908958082500278871676033458542⟩, ⟨4, 1919251317, 12, 33861315163562240176871858531⟩, ⟨4, 1919251317, 8, 8391166444061484402⟩, ⟨4, 1919251317, 20, 578825458491896554300161426208599908388812185971⟩, ⟨4, 1919251317, 12, 34165963441767551604034986355⟩, ⟨4, 1919251317, 12, 36641871854537209371704516979⟩, ⟨4, 1919251317, 9, 2074421441378183112302⟩, ⟨4, 1919251317, 10, 512070261200627212773734⟩, ⟨4, 1919251317, 11, 138296318114583548378965356⟩, ⟨4, 1919251317, 13, 8038691132050414482116208587380⟩]
def nmA : List Sy := [⟨4, 1919251317, 7, 27436605143083124⟩, ⟨4, 1919251317, 7, 27718080119793780⟩, ⟨4, 1919251317, 7, 27999555096504436⟩, ⟨4, 1919251317, 7, 28281030073215092⟩, ⟨4, 1919251317, 7, 28562505049925748⟩, ⟨4, 1919251317, 7, 28843980026636404⟩]
def nm (i : Nat) : Sy := nmA.getD i ⟨0, 0, 0, 0⟩
theorem names_row (x0 x1 : AV) (F : AV → AV → AV → St → CV) : (jLoop (fun (v5 : AV) (v6 : AV) (v7 : AV) (v8 : AV) (n9 : Int) (s10 : St) => (none : CV)) (fun ih17 => fun (v11 : AV) (v12 : AV) (v13 : AV) (v14 : AV) (n15 : Int) (s16 : St) => jLen Tryz.prog 78 (.av v14) fun n18 => jIf (ltZ n15 n18) (jIndexAddr 13 v14 n15 fun v19 => jFieldAddr 0 v19 fun v20 => jLoad1 s16 v20 fun v21 => jCall (jmix jt S6 1998) 6 [v21] s16 fun v22 s23 => elemA 2 v22 fun y24 => jApp Tryz.prog 26 26 s23 v13 (.fl 2 [y24]) fun v25 s26 => wrapK .i64 (addZ n15 (.ofNat 1)) fun n27 => ih17 v11 v12 v25 v14 n27 s26) (F v11 v12 v13 s16)) 1998) x0 x1 (.own 2 namesR 0) lemmasV (.ofNat 0) ⟨[], [(33, 2)]⟩ = F x0 x1 (rowO namesL 0) ⟨[], [(53, 2)]⟩ := by kernel_rfl
theorem name_0 (st : St) (κ : AV → St → CV) : (jArith Tryz.prog .rem 3 .i64 (.ofNat 0) (.ofNat 8) fun n45 => jArith Tryz.prog .rem 3 .i64 (.ofNat 0) (.ofNat 8) fun n46 => wrapK .i64 (addZ n46 (.ofNat 1)) fun n47 => jSub (.p (.st 8 7523094288207667809)) n45 (some n47) fun v48 => jG ((abinOp Tryz.prog C .add 9 (.const (.string ⟨#[116, 104, 101, 111, 114, 121]⟩)) (.tmp 43) (.p (.st 6 133532402149492)) v48).map (·, st)) false fun v49 s50 => jCall (jmix jt S6 1998) 6 [v49] st κ) = κ (nm 0).V st := by kernel_rfl
theorem name_1 (st : St) (κ : AV → St → CV) : (jArith Tryz.prog .rem 3 .i64 (.ofNat 1) (.ofNat 8) fun n45 => jArith Tryz.prog .rem 3 .i64 (.ofNat 1) (.ofNat 8) fun n46 => wrapK .i64 (addZ n46 (.ofNat 1)) fun n47 => jSub (.p (.st 8 7523094288207667809)) n45 (some n47) fun v48 => jG ((abinOp Tryz.prog C .add 9 (.const (.string ⟨#[116, 104, 101, 111, 114, 121]⟩)) (.tmp 43) (.p (.st 6 133532402149492)) v48).map (·, st)) false fun v49 s50 => jCall (jmix jt S6 1998) 6 [v49] st κ) = κ (nm 1).V st := by kernel_rfl
theorem name_2 (st : St) (κ : AV → St → CV) : (jArith Tryz.prog .rem 3 .i64 (.ofNat 2) (.ofNat 8) fun n45 => jArith Tryz.prog .rem 3 .i64 (.ofNat 2) (.ofNat 8) fun n46 => wrapK .i64 (addZ n46 (.ofNat 1)) fun n47 => jSub (.p (.st 8 7523094288207667809)) n45 (some n47) fun v48 => jG ((abinOp Tryz.prog C .add 9 (.const (.string ⟨#[116, 104, 101, 111, 114, 121]⟩)) (.tmp 43) (.p (.st 6 133532402149492)) v48).map (·, st)) false fun v49 s50 => jCall (jmix jt S6 1998) 6 [v49] st κ) = κ (nm 2).V st := by kernel_rfl
theorem name_3 (st : St) (κ : AV → St → CV) : (jArith Tryz.prog .rem 3 .i64 (.ofNat 3) (.ofNat 8) fun n45 => jArith Tryz.prog .rem 3 .i64 (.ofNat 3) (.ofNat 8) fun n46 => wrapK .i64 (addZ n46 (.ofNat 1)) fun n47 => jSub (.p (.st 8 7523094288207667809)) n45 (some n47) fun v48 => jG ((abinOp Tryz.prog C .add 9 (.const (.string ⟨#[116, 104, 101, 111, 114, 121]⟩)) (.tmp 43) (.p (.st 6 133532402149492)) v48).map (·, st)) false fun v49 s50 => jCall (jmix jt S6 1998) 6 [v49] st κ) = κ (nm 3).V st := by kernel_rfl
theorem name_4 (st : St) (κ : AV → St → CV) : (jArith Tryz.prog .rem 3 .i64 (.ofNat 4) (.ofNat 8) fun n45 => jArith Tryz.prog .rem 3 .i64 (.ofNat 4) (.ofNat 8) fun n46 => wrapK .i64 (addZ n46 (.ofNat 1)) fun n47 => jSub (.p (.st 8 7523094288207667809)) n45 (some n47) fun v48 => jG ((abinOp Tryz.prog C .add 9 (.const (.string ⟨#[116, 104, 101, 111, 114, 121]⟩)) (.tmp 43) (.p (.st 6 133532402149492)) v48).map (·, st)) false fun v49 s50 => jCall (jmix jt S6 1998) 6 [v49] st κ) = κ (nm 4).V st := by kernel_rfl
theorem name_5 (st : St) (κ : AV → St → CV) : (jArith Tryz.prog .rem 3 .i64 (.ofNat 5) (.ofNat 8) fun n45 => jArith Tryz.prog .rem 3 .i64 (.ofNat 5) (.ofNat 8) fun n46 => wrapK .i64 (addZ n46 (.ofNat 1)) fun n47 => jSub (.p (.st 8 7523094288207667809)) n45 (some n47) fun v48 => jG ((abinOp Tryz.prog C .add 9 (.const (.string ⟨#[116, 104, 101, 111, 114, 121]⟩)) (.tmp 43) (.p (.st 6 133532402149492)) v48).map (·, st)) false fun v49 s50 => jCall (jmix jt S6 1998) 6 [v49] st κ) = κ (nm 5).V st := by kernel_rfl
theorem name_i (c : ACall) (hc : c = jmix jt S6 1998) (i : Nat) (hi : i < 6) (st : St) (κ : AV → St → CV) : (jArith Tryz.prog .rem 3 .i64 (.ofNat i) (.ofNat 8) fun n45 => jArith Tryz.prog .rem 3 .i64 (.ofNat i) (.ofNat 8) fun n46 => wrapK .i64 (addZ n46 (.ofNat 1)) fun n47 => jSub (.p (.st 8 7523094288207667809)) n45 (some n47) fun v48 => jG ((abinOp Tryz.prog C .add 9 (.const (.string ⟨#[116, 104, 101, 111, 114, 121]⟩)) (.tmp 43) (.p (.st 6 133532402149492)) v48).map (·, st)) false fun v49 s50 => jCall c 6 [v49] st κ) = κ (nm i).V st := by
  subst hc
  match i, hi with
  | 0, _ => exact name_0 st κ
  | 1, _ => exact name_1 st κ
  | 2, _ => exact name_2 st κ
  | 3, _ => exact name_3 st κ
  | 4, _ => exact name_4 st κ
  | 5, _ => exact name_5 st κ
noncomputable def bx (nm : Sy) (en : List Sy) (k1 : Nat) (dis : List Sy) (k2 : Nat) : List AV := [.p (.sc (.int .i64 (.ofNat 8))), .p (.st nm.a nm.b), .p (.st nm.c nm.d), zS, zN, zS, zS, zN, .p (.sc (.bool false)), zI, zS, zS, zI, zS, zS, zS, zS, zS, zN, zN, zN, zN, zN, zN, zS, zS, zN, zN, rowO en k1, rowO dis k2, zS, .p (.sc (.int .u64 (.ofNat 0)))]
def BI (r : List Nat) : PV := .fr 2 1 r.length fun j => .sc (.int .u8 (.ofNat (r.getD j 0)))
def BR (l : List (List Nat)) : PV := .fr 2 1 l.length fun i => BI (l.getD i [])
theorem len65 {α : Type} (l : List (List Nat)) (κ : Int → Option α) : jLen Tryz.prog 65 (.av (.p (BR l))) κ = κ (.ofNat l.length) := by
  unfold BR
  generalize (fun i => BI (l.getD i [])) = f
  generalize l.length = n
  kernel_rfl
theorem len66 {α : Type} (r : List Nat) (κ : Int → Option α) : jLen Tryz.prog 66 (.av (.p (BI r))) κ = κ (.ofNat r.length) := by
  unfold BI
  generalize (fun j => PV.sc (.int .u8 (.ofNat (r.getD j 0)))) = f
  generalize r.length = n
  kernel_rfl
theorem at_B {α : Type} (l : List (List Nat)) (i : Nat) (κ : AV → Option α) (h : i < l.length) : jIndexAddr 1 (.p (BR l)) (.ofNat i) κ = κ (.ipt [BI (l.getD i [])]) := by
  show Bool.rec (motive := fun _ => Option α) none (jEl (BI (l.getD i [])) κ) (Nat.blt i l.length) = _
  rw [show Nat.blt i l.length = true from Nat.ble_eq_true_of_le h]
  rfl
theorem at_b {α : Type} (r : List Nat) (i : Nat) (κ : AV → Option α) (h : i < r.length) : jIndexAddr 1 (.p (BI r)) (.ofNat i) κ = κ (.ipt [.sc (.int .u8 (.ofNat (r.getD i 0)))]) := by
  show Bool.rec (motive := fun _ => Option α) none (jEl (.sc (.int .u8 (.ofNat (r.getD i 0)))) κ) (Nat.blt i r.length) = _
  rw [show Nat.blt i r.length = true from Nat.ble_eq_true_of_le h]
  rfl
theorem byte_half {α : Type} (b : Nat) (hb : b < 256) (κ : Int → Option α) : jArith Tryz.prog .quo 5 .u8 (.ofNat b) (.ofNat 2) κ = κ (.ofNat (b / 2)) := by
  have h : ∀ slow κ', binI (α := α) .quo .u8 (.ofNat b) (.ofNat 2) slow κ' = κ' (.i .u8 (.ofNat (b / 2))) := by
    intro slow κ'
    show Bool.rec (motive := fun _ => Option α) slow (fM (b / 2) fun z => κ' (.i .u8 (.ofNat z))) (Nat.blt (b / 2) (lim .u8)) = _
    rw [show Nat.blt (b / 2) (lim .u8) = true from Nat.ble_eq_true_of_le (by show b / 2 + 1 ≤ 256; omega)]
    exact fM_eq _ _
  unfold jArith
  rw [h]
  rfl
theorem byte_odd {α : Type} (b : Nat) (κ : Int → Option α) : jArith Tryz.prog .rem 5 .u8 (.ofNat b) (.ofNat 2) κ = κ (.ofNat (b % 2)) := by
  have h : ∀ slow κ', binI (α := α) .rem .u8 (.ofNat b) (.ofNat 2) slow κ' = κ' (.i .u8 (.ofNat (b % 2))) := by
    intro slow κ'
    show (fM (b % 2) fun z => κ' (.i .u8 (.ofNat z))) = _
    exact fM_eq _ _
  unfold jArith
  rw [h]
  rfl
theorem which {α : Type} (b : Nat) (κ : Int → Option α) : jArith Tryz.prog .rem 3 .i64 (.ofNat b) (.ofNat 53) κ = κ (.ofNat (b % 53)) := by
  have h : ∀ slow κ', binI (α := α) .rem .i64 (.ofNat b) (.ofNat 53) slow κ' = κ' (.i .i64 (.ofNat (b % 53))) := by
    intro slow κ'
    show (fM (b % 53) fun z => κ' (.i .i64 (.ofNat z))) = _
    exact fM_eq _ _
  unfold jArith
  rw [h]
  rfl
theorem wrap_small {α : Type} (n : Nat) (hn : n < 1000000) (κ : Int → α) : wrapK .i64 (.ofNat n) κ = κ (.ofNat n) := by
  show Bool.rec (motive := fun _ => α) (fInt (IntKind.i64.wrap (.ofNat n)) κ) (fM n fun n => κ (.ofNat n)) (Nat.blt n (lim .i64)) = _
  have : Nat.blt n (lim .i64) = true := Nat.ble_eq_true_of_le (by show n + 1 ≤ 9223372036854775808; omega)
  rw [this]
  exact fM_eq _ _
theorem app36_nil (κ : AV → St → CV) : jApp Tryz.prog 36 36 ⟨[], [(53, 2)]⟩ (zN) (.p (.tr 32 w0R.reverse)) κ = κ (.own 32 w0R 1) ⟨[], [(53, 2), (38, 32)]⟩ := by kernel_rfl
theorem app36_own {α : Type} (H : List (List AV)) (K : List (Nat × Nat)) (rxs : List PV) (k : Nat) (y : PV) (κ : AV → St → Option α) (hk : K[k]? = some (rxs.length, 32)) (hl : rxs.length < 1000) :
    jApp Tryz.prog 36 36 ⟨H, K⟩ (.own 32 rxs k) (.fl 32 [y]) κ = κ (.own 32 (y :: rxs) k) ⟨H, K.set k (rxs.length + 1, 32)⟩ := by
  have h : ∃ b, 0 < b ∧ b < 1000000 ∧ jApp Tryz.prog 36 36 ⟨H, K⟩ (.own 32 rxs k) (.fl 32 [y]) κ = fM (Nat.add rxs.length 1) fun l => nthA K k fun p => Prod.rec (motive := fun _ => Option α) (fun l' F' =>
        Bool.rec (motive := fun _ => Option α) none (setA K k (l, 32) fun K => κ (.own 32 (y :: rxs) k) ⟨H, K⟩)
          (Nat.beq (Nat.succ l') l && (Nat.beq F' 32 && (Nat.beq 32 32 && (Nat.ble (Nat.mul (Nat.add (Nat.mul 2 l) 768) b) 281474976710656 && Nat.ble l 9223372036854775807))))) p :=
    ⟨((Tryz.prog.underlying 36).bind fun t => match t with | .slice e => tbytes Tryz.prog e | _ => none).getD 0, Nat.le_of_ble_eq_true (by kernel_rfl), Nat.le_of_ble_eq_true (by kernel_rfl), by kernel_rfl⟩
  obtain ⟨b, hb, hb', h⟩ := h
  rw [h, fM_eq, nthA_eq, hk]
  simp only [setA_eq]
  have e1 : Nat.beq (Nat.succ rxs.length) (Nat.add rxs.length 1) = true := Nat.beq_refl _
  have e2 : Nat.ble (Nat.mul (Nat.add (Nat.mul 2 (Nat.add rxs.length 1)) 768) b) 281474976710656 = true := Nat.ble_eq_true_of_le (by
    show (2 * (rxs.length + 1) + 768) * b ≤ _
    have : (2 * (rxs.length + 1) + 768) * b ≤ 4000 * 1000000 := Nat.mul_le_mul (by omega) (by omega)
    omega)
  have e3 : Nat.ble (Nat.add rxs.length 1) 9223372036854775807 = true := Nat.ble_eq_true_of_le (by show rxs.length + 1 ≤ _; omega)
  rw [e1, e2, e3]
  rfl
theorem sanes_bx (n : Nat) (K : List (Nat × Nat)) (nm : Sy) (en : List Sy) (k1 : Nat) (dis : List Sy) (k2 : Nat) (h1 : tokR K en k1) (h2 : tokR K dis k2) : sanes n K.length (bx nm en k1 dis k2) = bx nm en k1 dis k2 := by
  have r : ∀ (l : List Sy) (k : Nat), tokR K l k → sane n K.length (rowO l k) = rowO l k := by
    intro l k h
    cases l with
    | nil => simp [rowO, sane]
    | cons x r =>
      rcases h with h | h
      · cases h
      · have : Nat.blt k K.length = true := Nat.ble_eq_true_of_le h
        simp only [rowO, sane, this, cond_true]
  simp only [bx, sanes, r en k1 h1, r dis k2 h2, sane]
theorem po_rowO (l : List Sy) (k : Nat) : toPO (rowO l k) = .mk (rowS l) := by
  cases l with
  | nil => rfl
  | cons x r =>
    show PO.mk (.tr 2 ((x :: r).map Sy.P).reverse.reverse) = _
    rw [List.reverse_reverse]
    rfl
inductive All2 : List AV → List PV → Prop
  | nil : All2 [] []
  | cons {c : AV} {p : PV} {cs : List AV} {ps : List PV} : toPO c = .mk p → All2 cs ps → All2 (c :: cs) (p :: ps)
theorem toCsA_all {α : Type} : ∀ {cs : List AV} {ps : List PV}, All2 cs ps → ∀ κ : List PV → Option α, toCsA cs ps.length κ = κ ps
  | _, _, .nil, κ => rfl
  | _, _, .cons (c := c) (p := p) (cs := cs) (ps := ps) h r, κ => by
    show PO.rec (motive := fun _ => Option α) none (fun x => toCsA cs ps.length fun l => κ (x :: l)) (toPO c) = _
    rw [h]
    exact toCsA_all r _
theorem elem_bx {α : Type} (nm : Sy) (en : List Sy) (k1 : Nat) (dis : List Sy) (k2 : Nat) (κ : PV → Option α) : elemA 32 (.ag (bx nm en k1 dis k2)) κ = κ (It.P (.e ⟨nm, en, dis⟩)) := by
  have h : All2 (bx nm en k1 dis k2) (En.cells ⟨nm, en, dis⟩) := by
    unfold bx En.cells
    repeat (first | exact .nil | refine .cons (by first | rfl | exact po_rowO _ _) ?_)
  exact toCsA_all h fun l => κ (.ag l)
theorem isW_ok : ∃ its0 : List It, w0R.reverse = its0.map It.P ∧ (∀ i ∈ its0, i.ok) ∧ wS its0 = 0 ∧ its0.length = 38 := by
  have key : ∀ l : List PV, (l.all fun x => match x with | .ag (.sc (.int .i64 (.ofNat k)) :: r) => Nat.beq r.length 31 && (!Nat.beq k 8 && (r.map AV.p).all cell1) | _ => false) = true → ∃ its0 : List It, l = its0.map It.P ∧ (∀ i ∈ its0, i.ok) ∧ wS its0 = 0 ∧ its0.length = l.length := by
    intro l
    induction l with
    | nil => intro _; exact ⟨[], rfl, (by intro i hi; cases hi), rfl, rfl⟩
    | cons x l ih =>
      intro h
      rw [List.all_cons, Bool.and_eq_true] at h
      obtain ⟨its, e1, e2, e3, e4⟩ := ih h.2
      have h1 := h.1
      split at h1
      · rename_i k r
        simp only [Bool.and_eq_true, Bool.not_eq_true'] at h1
        refine ⟨.w (.ofNat k) r :: its, by rw [List.map_cons, ← e1]; rfl, ?_, by rw [wS_cons, e3]; rfl, by simp [e4]⟩
        intro i hi
        rcases List.mem_cons.1 hi with rfl | hi
        · refine ⟨⟨Nat.eq_of_beq_eq_true h1.1, ?_⟩, h1.2.2⟩
          intro hk
          injection hk with hk
          have := h1.2.1
          rw [hk] at this
          cases this
        · exact e2 i hi
      · cases h1
  obtain ⟨its, h1, h2, h3, h4⟩ := key w0R.reverse (by kernel_rfl)
  exact ⟨its, h1, h2, h3, by rw [h4]; kernel_rfl⟩
end Go.Proofs.YtofagfhccgfgmaaGreatDoor.Wo
/- theories of law 28: what they add to a world. -/
set_option maxRecDepth 1000000
namespace Go.Proofs.YtofagfhccgfgmaaGreatDoor.Wo
open Go Go.RowKit Go.Proofs.Ab Go.Proofs.YtofagfhccgfgmaaGreatDoor.Tab
theorem cells2 {α : Type} (t : Sy) (κ : List AV → Option α) : cellsA t.V 2 κ = κ [.p (.st t.a t.b), .p (.st t.c t.d)] := rfl
theorem loadI {α : Type} (st : St) (c : PV) (r : List PV) (κ : AV → Option α) : jLoad1 st (.ipt (c :: r)) κ = κ (.p c) := rfl
theorem asI_u8 {α : Type} (n : Int) (κ : Int → Option α) : asI .u8 (.p (.sc (.int .u8 n))) κ = κ n := rfl
theorem loadD {α : Type} (nm : Sy) (en : List Sy) (k1 : Nat) (dis : List Sy) (k2 : Nat) (s : List AV) (K : List (Nat × Nat)) (κ : AV → Option α) : jLoad1 ⟨[bx nm en k1 dis k2, s], K⟩ (.ptr 0 29) κ = κ (rowO dis k2) := rfl
theorem loadE {α : Type} (nm : Sy) (en : List Sy) (k1 : Nat) (dis : List Sy) (k2 : Nat) (s : List AV) (K : List (Nat × Nat)) (κ : AV → Option α) : jLoad1 ⟨[bx nm en k1 dis k2, s], K⟩ (.ptr 0 28) κ = κ (rowO en k1) := rfl
theorem load_bx {α : Type} (nm : Sy) (en : List Sy) (k1 : Nat) (dis : List Sy) (k2 : Nat) (K : List (Nat × Nat)) (κ : AV → Option α) : jLoadN 32 ⟨[bx nm en k1 dis k2], K⟩ (.ptr 0 0) κ = κ (.ag (bx nm en k1 dis k2)) := rfl
def Res15 (its0 : List It) (x : CV) : Prop := ∃ (es : List En) (k : Nat) (K : List (Nat × Nat)), es.length ≤ 6 ∧ (∀ e ∈ es, e.en.length ≤ 12 ∧ e.dis.length ≤ 12) ∧ x = some (.own 32 ((its0 ++ es.map It.e).map It.P).reverse k, ⟨[], K⟩)
theorem bx_one (nm : Sy) (en : List Sy) (k1 : Nat) (dis : List Sy) (k2 : Nat) : (bx nm en k1 dis k2).all cell1 = true := by
  have r : ∀ (l : List Sy) (k : Nat), cell1 (rowO l k) = true := by intro l k; cases l <;> rfl
  simp only [bx, List.all_cons, r, List.all_nil]
  rfl
theorem store29 (nm : Sy) (en : List Sy) (k1 : Nat) (dis : List Sy) (k2 : Nat) (d : List Sy) (k : Nat) (s : List AV) (K : List (Nat × Nat)) (κ : St → CV) :
    jStore 1 ⟨[bx nm en k1 dis k2, s], K⟩ (.ptr 0 29) (rowO d k) κ = κ ⟨[bx nm en k1 d k, s], K⟩ := by cases d <;> rfl
theorem store28 (nm : Sy) (en : List Sy) (k1 : Nat) (dis : List Sy) (k2 : Nat) (d : List Sy) (k : Nat) (s : List AV) (K : List (Nat × Nat)) (κ : St → CV) :
    jStore 1 ⟨[bx nm en k1 dis k2, s], K⟩ (.ptr 0 28) (rowO d k) κ = κ ⟨[bx nm d k dis k2, s], K⟩ := by cases d <;> rfl
theorem sane_out {α : Type} (n : Nat) (K : List (Nat × Nat)) (r : List PV) (x : Nat × Nat) (κ : AV → Option α) (h : K[1]? = some x) : saneK n K.length (.own 32 r 1) κ = κ (.own 32 r 1) := by
  have h := (List.getElem?_eq_some_iff.1 h).1
  rw [saneK_eq, sane]
  have : Nat.blt 1 K.length = true := Nat.ble_eq_true_of_le h
  rw [this]
  rfl
structure Inv (K : List (Nat × Nat)) (o q : Nat) (en : List Sy) (k1 : Nat) (dis : List Sy) (k2 : Nat) : Prop where
  nm : tokR K namesL 0
  out : K[1]? = some (o, 32)
  ten : tokK K en k1
  tdis : tokK K dis k2
  en1 : en ≠ [] → k1 ≠ 1
  dis1 : dis ≠ [] → k2 ≠ 1
  ne : en ≠ [] → dis ≠ [] → k1 ≠ k2
  le1 : en.length ≤ q
  le2 : dis.length ≤ q
theorem tokK.keep {K K' : List (Nat × Nat)} {l : List Sy} {k q : Nat} (h : tokK K l k) (hq : l ≠ [] → k ≠ q) (hK : ∀ p, p ≠ q → p < K.length → K'[p]? = K[p]?) : tokK K' l k := by
  rcases h with h | h
  · exact .inl h
  · by_cases hl : l = []
    · exact .inl hl
    · exact .inr (by rw [hK k (hq hl) (List.getElem?_eq_some_iff.1 h).1]; exact h)
theorem Inv.addD {K K' : List (Nat × Nat)} {o q : Nat} {en : List Sy} {k1 : Nat} {dis : List Sy} {k2 k' : Nat} {x : Sy} (h : Inv K o q en k1 dis k2) (h1 : tokK K' (dis ++ [x]) k') (h2 : K.length ≤ K'.length)
    (h4 : ∀ p, p ≠ k2 → p < K.length → K'[p]? = K[p]?) (h5 : dis = [] → k' = K.length ∧ ∀ p, p < K.length → K'[p]? = K[p]?) (h6 : dis ≠ [] → k' = k2) : Inv K' o (q + 1) en k1 (dis ++ [x]) k' := by
  have ho := (List.getElem?_eq_some_iff.1 h.out).1
  by_cases hd : dis = []
  · obtain ⟨rfl, h5'⟩ := h5 hd
    refine ⟨h.nm.mono h2, by rw [h5' 1 ho]; exact h.out, ?_, h1, h.en1, fun _ => by omega, ?_, by have := h.le1; omega, by simp [hd]⟩
    · rcases h.ten with e | e
      · exact .inl e
      · exact .inr (by rw [h5' k1 (List.getElem?_eq_some_iff.1 e).1]; exact e)
    · intro he _
      rcases h.ten with e | e
      · exact absurd e he
      · have := (List.getElem?_eq_some_iff.1 e).1
        omega
  · have := h6 hd
    subst this
    refine ⟨h.nm.mono h2, by rw [h4 1 (Ne.symm (h.dis1 hd)) ho]; exact h.out, h.ten.keep (fun he => h.ne he hd) h4, h1, h.en1, fun _ => h.dis1 hd, fun he _ => h.ne he hd, by have := h.le1; omega, by have := h.le2; simp; omega⟩
theorem Inv.addE {K K' : List (Nat × Nat)} {o q : Nat} {en : List Sy} {k1 : Nat} {dis : List Sy} {k2 k' : Nat} {x : Sy} (h : Inv K o q en k1 dis k2) (h1 : tokK K' (en ++ [x]) k') (h2 : K.length ≤ K'.length)
    (h4 : ∀ p, p ≠ k1 → p < K.length → K'[p]? = K[p]?) (h5 : en = [] → k' = K.length ∧ ∀ p, p < K.length → K'[p]? = K[p]?) (h6 : en ≠ [] → k' = k1) : Inv K' o (q + 1) (en ++ [x]) k' dis k2 := by
  have ho := (List.getElem?_eq_some_iff.1 h.out).1
  by_cases hd : en = []
  · obtain ⟨rfl, h5'⟩ := h5 hd
    refine ⟨h.nm.mono h2, by rw [h5' 1 ho]; exact h.out, h1, ?_, fun _ => by omega, h.dis1, ?_, by simp [hd], by have := h.le2; omega⟩
    · rcases h.tdis with e | e
      · exact .inl e
      · exact .inr (by rw [h5' k2 (List.getElem?_eq_some_iff.1 e).1]; exact e)
    · intro _ he
      rcases h.tdis with e | e
      · exact absurd e he
      · have := (List.getElem?_eq_some_iff.1 e).1
        omega
  · have := h6 hd
    subst this
    refine ⟨h.nm.mono h2, by rw [h4 1 (Ne.symm (h.en1 hd)) ho]; exact h.out, h1, h.tdis.keep (fun he => Ne.symm (h.ne hd he)) h4, fun _ => h.en1 hd, h.dis1, fun _ he => h.ne hd he, by have := h.le1; simp; omega, by have := h.le2; omega⟩
theorem names_len : namesL.length = 53 := by kernel_rfl
theorem th15 (its0 : List It) (h0 : w0R.reverse = its0.map It.P) (hlen : its0.length = 38) (l : List (List Nat)) (hl : l.length ≤ 6) (hr : ∀ r ∈ l, r.length ≤ 12) (hb : ∀ r ∈ l, ∀ b ∈ r, b < 256) :
    Res15 its0 (R15 (jmix jt S6 1998) 1998 (.p (.tr 32 w0R.reverse)) (.p (BR l)) ⟨[], []⟩) := by
  unfold R15
  rw [jCall_at (call := jmix jt S6 1998) (g := 40) (xs := []) (st := ⟨[], []⟩) (v := .own 2 namesR 0) (st' := ⟨[], [(33, 2)]⟩) _ (by kernel_rfl)]
  rw [jCall_at (call := jmix jt S6 1998) (g := 26) (xs := []) (st := ⟨[], [(33, 2)]⟩) (v := lemmasV) (st' := ⟨[], [(33, 2)]⟩) _ (by kernel_rfl)]
  rw [names_row]
  show Res15 its0 (jApp Tryz.prog 36 36 ⟨[], [(53, 2)]⟩ (zN) (.p (.tr 32 w0R.reverse)) _)
  rw [app36_nil]
  have hw : w0R = ((its0 ++ ([] : List En).map It.e).map It.P).reverse := by simp [← h0]
  generalize hc : jmix jt S6 1998 = c
  generalize hn : (1998 : Nat) = n
  show Res15 its0 (jLoop (σ := AV → AV → AV → Int → St → CV) _ _ n (.p (BR l)) (rowO namesL 0) (.own 32 w0R 1) (.ofNat 0) ⟨[], [(53, 2), (38, 32)]⟩)
  rw [show AV.own 32 w0R 1 = AV.own 32 ((its0 ++ ([] : List En).map It.e).map It.P).reverse 1 from congrArg (fun r => AV.own 32 r 1) hw]
  refine loopQ (σ := AV → AV → AV → Int → St → CV) (len := l.length) (fun j f => ∀ es K, es.length = j → (∀ e ∈ es, e.en.length ≤ 12 ∧ e.dis.length ≤ 12) → tokR K namesL 0 → K[1]? = some (38 + j, 32) →
      Res15 its0 (f (.p (BR l)) (rowO namesL 0) (.own 32 ((its0 ++ es.map It.e).map It.P).reverse 1) (.ofNat j) ⟨[], K⟩))
    (fun ih j hj hih es K hes hel hn ho => ?_) n 0 (Nat.zero_le _) (by omega) [] [(53, 2), (38, 32)] rfl (by intro e he; cases he) (.inr (by decide)) rfl
  show Res15 its0 (jLen Tryz.prog 65 (.av (.p (BR l))) _)
  rw [len65, lt_eq]
  by_cases hj' : j < l.length
  · simp only [hj', decide_true]
    have hrm : l.getD j [] ∈ l := by rw [List.getD_eq_getElem?_getD, List.getElem?_eq_getElem hj', Option.getD_some]; exact List.getElem_mem hj'
    have hrl := hr _ hrm
    have hbl := hb _ hrm
    show Res15 its0 (jArith Tryz.prog .rem 3 .i64 (.ofNat j) (.ofNat 8) _)
    rw [name_i c hc.symm j (by omega), cells2, appA_eq, fM_at]
    show Res15 its0 (jStore 32 ⟨[_], K⟩ (.ptr 0 0) (.ag (bx (nm j) [] 0 [] 0)) _)
    rw [store_it _ _ K _ rfl rfl (bx_one _ _ _ _ _)]
    show Res15 its0 (jLoop (σ := AV → AV → AV → Int → AV → Int → St → CV) _ _ n (.p (BR l)) (rowO namesL 0) (.own 32 ((its0 ++ es.map It.e).map It.P).reverse 1) (.ofNat j) (.ptr 0 0) (.ofNat 0) ⟨[bx (nm j) [] 0 [] 0], K⟩)
    generalize hrr : l.getD j [] = r at hrl hbl
    refine loopQ (σ := AV → AV → AV → Int → AV → Int → St → CV) (len := r.length) (fun q f => ∀ en k1 dis k2 K', Inv K' (38 + j) q en k1 dis k2 →
        Res15 its0 (f (.p (BR l)) (rowO namesL 0) (.own 32 ((its0 ++ es.map It.e).map It.P).reverse 1) (.ofNat j) (.ptr 0 0) (.ofNat q) ⟨[bx (nm j) en k1 dis k2], K'⟩))
      (fun ih1 q hq hih1 en k1 dis k2 K' hI => ?_) n 0 (Nat.zero_le _) (by omega) [] 0 [] 0 K ⟨hn, ho, .inl rfl, .inl rfl, fun h => absurd rfl h, fun h => absurd rfl h, fun h => absurd rfl h, Nat.le_refl _, Nat.le_refl _⟩
    show Res15 its0 (jIndexAddr 1 (.p (BR l)) (.ofNat j) _)
    rw [at_B l j _ hj', hrr, loadI, len66, lt_eq]
    by_cases hq' : q < r.length
    · simp only [hq', decide_true]
      have hbm : r.getD q 0 ∈ r := by rw [List.getD_eq_getElem?_getD, List.getElem?_eq_getElem hq', Option.getD_some]; exact List.getElem_mem hq'
      have hb256 := hbl _ hbm
      show Res15 its0 (jIndexAddr 1 (.p (BR l)) (.ofNat j) _)
      generalize hbb : r.getD q 0 = b at hb256
      rw [at_B l j _ hj', hrr, loadI, at_b r q _ hq', loadI, hbb, asI_u8, byte_half b hb256, wrap_small _ (by omega), len_own, names_len, which]
      obtain ⟨x, hx⟩ : ∃ x, namesL[b / 2 % 53]? = some x := ⟨_, List.getElem?_eq_getElem (by rw [names_len]; exact Nat.mod_lt _ (by decide))⟩
      rw [at_own namesL 0 _ x _ hx, sy_load, fM_at]
      show Res15 its0 (jStore 2 ⟨[bx (nm j) en k1 dis k2, [_, _]], K'⟩ (.ptr 1 0) x.V _)
      rw [store_sym, at_B l j _ hj', hrr, loadI, at_b r q _ hq', loadI, hbb, asI_u8, byte_odd, jJoin_at]
      have hI1 := hI.le1
      have hI2 := hI.le2
      cases heq : eqZ (.ofNat (b % 2)) (.ofNat 0) with
      | true =>
        rw [jIf_t, fa29, loadD, unbox2, elem2]
        obtain ⟨k', K2, hk2, hlen, _, h4, h5, h6, e⟩ := app_row2 [bx (nm j) en k1 dis k2, [.p (.st x.a x.b), .p (.st x.c x.d)]] K' dis k2 x hI.tdis (by omega)
        rw [e, fa29, store29]
        show Res15 its0 (wrapK .i64 (addZ (.ofNat q) (.ofNat 1)) _)
        rw [next q (by omega)]
        have hI' : Inv K2 (38 + j) (q + 1) en k1 (dis ++ [x]) k' := by
          exact hI.addD hk2 hlen h4 h5 h6
        show Res15 its0 (jIf false _ _)
        rw [jIf_f]
        dsimp only
        rw [fM_at, saneK_p, sane_row 1 K2 namesL 0 _ hI'.nm, sane_out 1 K2 _ _ _ hI'.out, saneK_ptr, cutR_eq, take_all, List.take_succ_cons, List.take_zero, List.map_cons, List.map_nil, sanes_bx 1 K2 _ _ _ _ _ hI'.ten.r hI'.tdis.r]
        exact hih1 hq' en k1 (dis ++ [x]) k' K2 hI'
      | false =>
        rw [jIf_f, fa28, loadE, unbox2, elem2]
        obtain ⟨k', K2, hk2, hlen, _, h4, h5, h6, e⟩ := app_row2 [bx (nm j) en k1 dis k2, [.p (.st x.a x.b), .p (.st x.c x.d)]] K' en k1 x hI.ten (by omega)
        rw [e, fa28, store28]
        show Res15 its0 (wrapK .i64 (addZ (.ofNat q) (.ofNat 1)) _)
        rw [next q (by omega)]
        have hI' : Inv K2 (38 + j) (q + 1) (en ++ [x]) k' dis k2 := by
          exact hI.addE hk2 hlen h4 h5 h6
        show Res15 its0 (jIf false _ _)
        rw [jIf_f]
        dsimp only
        rw [fM_at, saneK_p, sane_row 1 K2 namesL 0 _ hI'.nm, sane_out 1 K2 _ _ _ hI'.out, saneK_ptr, cutR_eq, take_all, List.take_succ_cons, List.take_zero, List.map_cons, List.map_nil, sanes_bx 1 K2 _ _ _ _ _ hI'.ten.r hI'.tdis.r]
        exact hih1 hq' (en ++ [x]) k' dis k2 K2 hI'
    · have : q = r.length := by omega
      subst this
      simp only [Nat.lt_irrefl, decide_false]
      rw [jIf_f, load_bx, elem_bx]
      have hI1 := hI.le1
      have hI2 := hI.le2
      have hlr : (((its0 ++ es.map It.e).map It.P).reverse).length = 38 + j := by simp [hlen, hes, Nat.add_comm]
      show Res15 its0 (jApp Tryz.prog 36 36 ⟨[bx (nm j) en k1 dis k2], K'⟩ (.own 32 ((its0 ++ es.map It.e).map It.P).reverse 1) (.fl 32 [It.P (.e ⟨nm j, en, dis⟩)]) _)
      rw [app36_own _ K' _ 1 _ _ (by rw [hlr]; exact hI.out) (by omega)]
      show Res15 its0 (wrapK .i64 (addZ (.ofNat j) (.ofNat 1)) _)
      rw [next j (by omega)]
      have h1K := (List.getElem?_eq_some_iff.1 hI.out).1
      have hout : (K'.set 1 (((its0 ++ es.map It.e).map It.P).reverse.length + 1, 32))[1]? = some (38 + (j + 1), 32) := by rw [hlr]; simp [h1K]; omega
      have hnm : tokR (K'.set 1 (((its0 ++ es.map It.e).map It.P).reverse.length + 1, 32)) namesL 0 := hI.nm.mono (by simp)
      generalize K'.set 1 (((its0 ++ es.map It.e).map It.P).reverse.length + 1, 32) = K2 at hout hnm
      have hrow : It.P (.e ⟨nm j, en, dis⟩) :: ((its0 ++ es.map It.e).map It.P).reverse = ((its0 ++ (es ++ [(⟨nm j, en, dis⟩ : En)]).map It.e).map It.P).reverse := by simp
      rw [hrow]
      show Res15 its0 (jIf false _ _)
      rw [jIf_f]
      rw [fM_at, saneK_p, sane_row 0 K2 namesL 0 _ hnm, sane_out 0 K2 _ _ _ hout, cut_nil, take_all]
      refine hih hj' (es ++ [⟨nm j, en, dis⟩]) K2 (by simp [hes]) ?_ hnm hout
      intro e he
      rcases List.mem_append.1 he with he | he
      · exact hel e he
      · obtain rfl := List.mem_singleton.1 he
        exact ⟨by show en.length ≤ 12; omega, by show dis.length ≤ 12; omega⟩
  · have : j = l.length := by omega
    subst this
    simp only [Nat.lt_irrefl, decide_false]
    exact ⟨es, 1, K, by omega, hel, rfl⟩
end Go.Proofs.YtofagfhccgfgmaaGreatDoor.Wo
/- From a law's arguments to typed values; from contracts to the law's walk. -/
namespace Go.Proofs.Ab
open Go Go.RowKit Go.ChangeShapes Go.WideShapes Go.ChangeAt
def memOf (W : World) : Mem := fun a => match W.cell? a with
  | some v => if v.oneCell' = true then some v else none
  | none => none
theorem memOf_some {W : World} {a : Addr} {v : Value} : memOf W a = some v ↔ W.cell? a = some v ∧ v.oneCell' = true := by
  unfold memOf
  cases W.cell? a with
  | none => simp
  | some u =>
    by_cases h : u.oneCell' = true
    · simp only [h, if_true, Option.some.injEq]
      constructor
      · rintro rfl; exact ⟨rfl, h⟩
      · exact fun k => k.1
    · simp only [h]
      constructor
      · intro k; cases k
      · rintro ⟨k1, k2⟩
        injection k1 with k1
        subst k1
        exact absurd k2 h
def Γ0 (W : World) : G := { base := W.heap.size, nH := 0, nK := 0, M := memOf W, φ := fun _ => none, τ := fun _ _ => none }
theorem rel0 (W : World) : Rel (Γ0 W) ⟨[], []⟩ W := {
  nH := rfl
  nK := rfl
  base := Nat.le_refl _
  mem a v h := (memOf_some.1 h).1
  bx id b h := by exact absurd h (Nat.not_lt_zero _)
  inj i j b h := by exact absurd h (Nat.not_lt_zero _)
  tk k n E a cap h := by simp at h
  tinj k k' n n' E E' a a' cap cap' _ h := by simp at h
  tn k n E m h := by simp at h
  one a v h := (memOf_some.1 h).2
  }
theorem walk_true {P : Program} {call : ACall} (hc : CallOk P call) {f : FuncId} {xs : List PV} (h : call f (xs.map .p) ⟨[], []⟩ = some (.p (.sc (.bool true)), ⟨[], []⟩)) {W : World} {rs : List Value} (hx : PRs (memOf W) xs rs) :
    Calls P f rs.toArray W fun e w' => e = .returned (.bool true) ∧ Below W.heap.size W w' := by
  refine (hc f _ _ _ _ h (Γ0 W) W rs (rel0 W) (PRs.toVRs (Γ := Γ0 W) hx)).2.mono fun e w' ⟨u, Γ', he, s, r, k⟩ => ?_
  simp only [VR, PR] at k
  subst k
  exact ⟨he, s.below⟩
section
variable (P : Program)
def Reads (t : TypeId) (T : Type) [GoT T] : Prop := ∀ (H : Type) (enc : TypeId × Value → H) (W : World) (fuel : Nat) (cs : List Value) (d : DataW H) (ps : List MemPlace),
  DataW.trod enc P W 0 (fun _ => true) true fuel t cs = some (d, ps) → ∃ x : T, GoT.bnd x = true ∧ PRs (memOf W) (GoT.cells x) cs
variable {P}
theorem PRcells.of_read {W : World} : ∀ (xs : List PV) (cs : List Value) (a : Addr) (n : Nat), (∀ x ∈ xs, x.flat1 = true) → PRs (memOf W) xs cs → (∀ i, i < cs.length → W.cell? (a.add (n + i)) = cs[i]?) → PRcells (memOf W) xs a n
  | [], cs, a, n, hf, h, hc => trivial
  | x :: xs, cs, a, n, hf, h, hc => by
    simp only [PRs] at h
    obtain ⟨v, vs, rfl, h1, h2⟩ := h
    simp only [PRcells]
    have hx := hf x (by simp)
    have h0 := hc 0 (by simp)
    simp only [Nat.add_zero, List.getElem?_cons_zero] at h0
    refine ⟨⟨v, memOf_some.2 ⟨h0, ?_⟩, h1⟩, PRcells.of_read xs vs a (n + 1) (fun y hy => hf y (by simp [hy])) h2 fun i hi => ?_⟩
    · cases x with
      | ag cs => cases hx
      | sc u => simp only [PR] at h1; subst h1; exact hx
      | st l c => simp only [PR] at h1; obtain ⟨_, rfl⟩ := h1; rfl
      | tr E xs => simp only [PR] at h1; obtain ⟨a, cap, rfl, _⟩ := h1; rfl
      | fr z E k f =>
        simp only [PR] at h1
        rcases h1 with ⟨_, rfl, _⟩ | ⟨_, a, cap, rfl, _⟩ <;> rfl
    · have := hc (i + 1) (by simpa using hi)
      rw [show n + 1 + i = n + (i + 1) by omega]
      simpa using this
theorem choose_list {T : Type} [Inhabited T] (p : Nat → T → Prop) : ∀ n : Nat, (∀ i, i < n → ∃ x, p i x) → ∃ l : List T, l.length = n ∧ ∀ i, i < n → p i (l.getD i default)
  | 0, h => ⟨[], rfl, fun i hi => absurd hi (Nat.not_lt_zero _)⟩
  | n + 1, h => by
    obtain ⟨l, hl, hp⟩ := choose_list p n fun i hi => h i (by omega)
    obtain ⟨x, hx⟩ := h n (by omega)
    refine ⟨l ++ [x], by simp [hl], fun i hi => ?_⟩
    by_cases hin : i < n
    · have : (l ++ [x]).getD i default = l.getD i default := by simp [List.getD_eq_getElem?_getD, List.getElem?_append_left (show i < l.length by omega)]
      rw [this]
      exact hp i hin
    · have : i = n := by omega
      subst this
      have : (l ++ [x]).getD i default = x := by simp [List.getD_eq_getElem?_getD, hl]
      rw [this]
      exact hx
theorem reads_row {t e : TypeId} {T : Type} [GoT T] [Inhabited T] (hu : P.underlying t = some (.slice e)) (he : Reads P e T) (hc : P.cellsOf e = GoT.E T) : Reads P t (List T) := by
  intro H enc W fuel cs d ps h
  rcases DataW.trod_slice hu h with ⟨rfl, _⟩ | ⟨a, len, cap, elems, rest, n, rfl, rfl, _, _, hl, hm, hel, hat, _⟩
  · refine ⟨[], rfl, ?_⟩
    show PRs (memOf W) [encRow ([] : List T)] _
    simp only [PRs, encRow, PR]
    exact ⟨_, [], rfl, .inl ⟨by decide, rfl, rfl⟩, rfl⟩
  · obtain ⟨l, hll, hp⟩ := choose_list (fun i (x : T) => GoT.bnd x = true ∧ PRcells (memOf W) (GoT.cells x) a (i * P.cellsOf e)) len fun i hi => by
      have h1 := hat i hi
      have h2 : ∃ y, elems[i]? = some y := ⟨elems[i]'(by omega), by simp⟩
      obtain ⟨y, hy⟩ := h2
      rw [hy, Option.bind_eq_some_iff] at h1
      obtain ⟨ce, hce, htr⟩ := h1
      obtain ⟨dy, py⟩ := y
      obtain ⟨x, hx, hpr⟩ := he H enc W n ce dy py htr
      obtain ⟨_, hcl, hcell⟩ := World.cells?_some hce
      refine ⟨x, hx, PRcells.of_read _ ce a (i * P.cellsOf e) (GoT.flat x) hpr fun j hj => ?_⟩
      have := hcell j (by omega)
      rwa [add_add] at this
    refine ⟨l, ?_, ?_⟩
    · show (Nat.blt l.length 9223372036854775808 && l.all GoT.bnd) = true
      simp only [Bool.and_eq_true]
      refine ⟨Nat.ble_eq_true_of_le ?_, List.all_eq_true.2 fun x hx => ?_⟩
      · have : maxLen = 9223372036854775807 := rfl
        omega
      · obtain ⟨i, hi, rfl⟩ := List.mem_iff_getElem.1 hx
        have := (hp i (by omega)).1
        simpa [hi] using this
    · show PRs (memOf W) [encRow l] _
      simp only [PRs, encRow, PR]
      refine ⟨_, [], rfl, .inr ⟨by decide, a, cap, by rw [hll], by omega, fun i hi => ?_⟩, rfl⟩
      refine PRelem.of_cells' ?_ ?_
      · rw [(cells_toPV _).1, GoT.len]
      · rw [(cells_toPV _).1, ← hc]
        exact (hp i (by omega)).2
theorem reads_arg {t : TypeId} {T : Type} [GoT T] (h : Reads P t T) {H : Type} {enc : TypeId × Value → H} {W : World} {v : Value} {d : DataW H} {ps : List MemPlace} (hd : DataW.Trod enc P W 0 (fun _ => true) true t v d ps)
    (hv : match GoT.ag T with | true => ∃ vs, v = .agg vs | false => v.cells = #[v]) : ∃ x : T, GoT.bnd x = true ∧ PR (memOf W) (toPV x) v := by
  obtain ⟨fuel, hf⟩ := hd
  obtain ⟨x, hb, k⟩ := h H enc W fuel _ d ps hf
  refine ⟨x, hb, PR_cells.2 ?_⟩
  rw [(cells_toPV x).1, (cells_toPV x).2]
  cases hag : GoT.ag T with
  | true =>
    rw [hag] at hv
    obtain ⟨vs, rfl⟩ := hv
    exact .inl ⟨vs, rfl, rfl, k⟩
  | false =>
    rw [hag] at hv
    have hv : v.cells = #[v] := hv
    rw [hv] at k
    exact .inr ⟨rfl, k⟩
end
end Go.Proofs.Ab
/- The calls of law 28; the law's walk. -/
set_option maxRecDepth 1000000
namespace Go.Proofs.YtofagfhccgfgmaaGreatDoor.Wo
open Go Go.RowKit Go.Proofs.Ab Go.Proofs.YtofagfhccgfgmaaGreatDoor.Tab
theorem back_own (E : Nat) (r : List PV) (k : Nat) (s st : St) : fzR 0 0 (.own E r k) s (backR false st) = some (.p (.tr E r.reverse), st) := by
  have h1 : fzR 0 0 (.own E r k) s (backR false st) = backR false st (.own E r k) s := by
    show fzC 0 0 (.own E r k) s (backR false st) = _
    have h2 : hasMs 0 (.own E r k) = false := by simp [hasMs]
    unfold fzC
    rw [h2]
    cases plainV (.own E r k) <;> rfl
  rw [h1]
  show (fAV (stripR (.own E r k)) fun v' => Bool.rec (motive := fun _ => CV) (cback false st v' s) (some (v', st)) (plainD v')) = _
  rw [fAV_eq]
  rfl
theorem back_row (l : List Sy) (k : Nat) (s st : St) : fzR 0 0 (rowO l k) s (backR false st) = some (.p (rowS l), st) := by
  cases l with
  | nil => rfl
  | cons x r =>
    show fzR 0 0 (.own 2 ((x :: r).map Sy.P).reverse k) s (backR false st) = _
    rw [back_own, List.reverse_reverse]
    rfl
theorem call17 (m : Nat) (its : List It) (hok : ∀ i ∈ its, i.ok) (hl : its.length < m) (hm : 200 < m) (hm' : m < 100000) (hw : wS its ≤ 100) (st : St) :
    jmix jt S6 (m + 2) 17 [.p (.tr 32 (its.map It.P))] st = some (.p (rowS (disAll its [])), st) := by
  obtain ⟨k, K, h⟩ := dis17 m (m + 1) rfl its hok hl hm hm' hw
  have h0 : ∀ xs, S6 17 [.p (.tr 32 xs)] st = none := by intro xs; kernel_rfl
  have e : ∀ (c : ACall) (n : Nat) (xs : List PV), jcallStep jt c n 17 [.p (.tr 32 xs)] st = Option.rec (motive := fun _ => CV) none (fun y => Prod.rec (motive := fun _ => CV) (fun v s => fzR 0 0 v s (backR false st)) y) (R17 c n (.p (.tr 32 xs)) ⟨[], []⟩) := by
    intro c n xs
    kernel_rfl
  rw [g6_at 17 _ st (m + 1) (h0 _), e, h]
  exact back_row _ _ _ _
theorem call18 (m : Nat) (its : List It) (hok : ∀ i ∈ its, i.ok) (hl : its.length < m) (hm : 200 < m) (hm' : m < 100000) (hw : wS its ≤ 100) (st : St) :
    jmix jt S6 (m + 2) 18 [.p (.tr 32 (its.map It.P))] st = some (.p (rowS (disAll its [])), st) := by
  obtain ⟨k, K, h⟩ := dis18 m (m + 1) rfl its hok hl hm hm' hw
  have h0 : ∀ xs, S6 18 [.p (.tr 32 xs)] st = none := by intro xs; kernel_rfl
  have e : ∀ (c : ACall) (n : Nat) (xs : List PV), jcallStep jt c n 18 [.p (.tr 32 xs)] st = Option.rec (motive := fun _ => CV) none (fun y => Prod.rec (motive := fun _ => CV) (fun v s => fzR 0 0 v s (backR false st)) y) (R18 c n (.p (.tr 32 xs)) ⟨[], []⟩) := by
    intro c n xs
    kernel_rfl
  rw [g6_at 18 _ st (m + 1) (h0 _), e, h]
  exact back_row _ _ _ _
theorem call15 (its0 : List It) (h0 : w0R.reverse = its0.map It.P) (hlen : its0.length = 38) (l : List (List Nat)) (hl : l.length ≤ 6) (hr : ∀ r ∈ l, r.length ≤ 12) (hb : ∀ r ∈ l, ∀ b ∈ r, b < 256) (k : Nat) (st : St) :
    ∃ es : List En, es.length ≤ 6 ∧ (∀ e ∈ es, e.en.length ≤ 12 ∧ e.dis.length ≤ 12) ∧ jmix jt S6 1999 15 [.own 32 w0R k, .p (BR l)] st = some (.p (.tr 32 ((its0 ++ es.map It.e).map It.P)), st) := by
  obtain ⟨es, k', K, h1, h2, h⟩ := th15 its0 h0 hlen l hl hr hb
  refine ⟨es, h1, h2, ?_⟩
  have h0 : ∀ x z E n f, S6 15 [.own 32 x k, .p (.fr z E n f)] st = none := by intro x z E n f; kernel_rfl
  have e : ∀ (c : ACall) (z E n : Nat) (f : Nat → PV), jcallStep jt c 1998 15 [.own 32 w0R k, .p (.fr z E n f)] st = Option.rec (motive := fun _ => CV) none (fun y => Prod.rec (motive := fun _ => CV) (fun v s => fzR 0 0 v s (backR false st)) y) (R15 c 1998 (.p (.tr 32 w0R.reverse)) (.p (.fr z E n f)) ⟨[], []⟩) := by
    intro c z E n f
    kernel_rfl
  unfold BR at h ⊢
  rw [g6_at 15 _ st 1998 (h0 _ _ _ _ _), e, h]
  show fzR 0 0 (.own 32 _ k') _ (backR false st) = _
  rw [back_own, List.reverse_reverse]
theorem law4 (l : List (List Nat)) (hb : ∀ r ∈ l, ∀ b ∈ r, b < 256) : g6 4 [.p (BR l)] ⟨[], []⟩ = some (.p (.sc (.bool true)), ⟨[], []⟩) := by
  have h0 : ∀ z E n f, S6 4 [.p (.fr z E n f)] ⟨[], []⟩ = none := by intro z E n f; kernel_rfl
  have e : ∀ (c : ACall) (z E n : Nat) (f : Nat → PV), jcallStep jt c 1999 4 [.p (.fr z E n f)] ⟨[], []⟩ = Option.rec (motive := fun _ => CV) none (fun y => Prod.rec (motive := fun _ => CV) (fun v s => fzR 0 0 v s (backR false ⟨[], []⟩)) y) (R4 c 1999 (.p (.fr z E n f)) ⟨[], []⟩) := by
    intro c z E n f
    kernel_rfl
  have h : ∃ s, R4 (jmix jt S6 1999) 1999 (.p (BR l)) ⟨[], []⟩ = some (.p (.sc (.bool true)), s) := by
    obtain ⟨its0, h0, hok, hw, hlen⟩ := isW_ok
    unfold R4
    rw [jCall_at (call := jmix jt S6 1999) (g := 14) (xs := []) (st := ⟨[], []⟩) (v := .p (.sc (.bool true))) (st' := ⟨[], []⟩) _ (by kernel_rfl), asB_at, nB_t, jIf_f, len65, lt_eq]
    by_cases hl6 : 6 < l.length
    · rw [decide_eq_true hl6, jIf_t]
      exact ⟨_, rfl⟩
    · rw [decide_eq_false hl6, jIf_f]
      generalize hc : jmix jt S6 1999 = c
      generalize hn : (1999 : Nat) = n
      refine loopQ (σ := AV → Int → St → CV) (len := l.length) (fun j f => (∀ r ∈ l.take j, r.length ≤ 12) → ∃ s, f (.p (BR l)) (.ofNat j) ⟨[], []⟩ = some (.p (.sc (.bool true)), s))
        (fun ih j hj hih hle => ?_) n 0 (Nat.zero_le _) (by omega) (by intro r hr; simp at hr)
      rw [len65, lt_eq]
      by_cases hj' : j < l.length
      · rw [decide_eq_true hj', jIf_t, at_B l j _ hj', loadI, len66, lt_eq]
        by_cases h12 : 12 < (l.getD j []).length
        · rw [decide_eq_true h12, jIf_t]
          exact ⟨_, rfl⟩
        · rw [decide_eq_false h12, jIf_f, next j (by omega)]
          refine hih hj' fun r hr => ?_
          rw [List.take_add_one, List.mem_append] at hr
          rcases hr with hr | hr
          · exact hle r hr
          · rw [List.getElem?_eq_getElem hj', Option.toList_some, List.mem_singleton] at hr
            rw [List.getD_eq_getElem?_getD, List.getElem?_eq_getElem hj', Option.getD_some, ← hr] at h12
            omega
      · have : j = l.length := by omega
        subst this
        rw [List.take_length] at hle
        rw [decide_eq_false hj', jIf_f]
        subst hc
        rw [jCall_at (call := jmix jt S6 1999) (g := 8) (xs := [.p (.sc (.int .u32 (.ofNat 0)))]) (st := ⟨[], []⟩) (v := .own 32 w0R 0) (st' := ⟨[], [(38, 32)]⟩) _ (by kernel_rfl)]
        obtain ⟨es, k1, k2, k3⟩ := call15 its0 h0 hlen l (by omega) hle hb 0 ⟨[], [(38, 32)]⟩
        have hok' : ∀ i ∈ its0 ++ es.map It.e, i.ok := by
          intro i hi
          rcases List.mem_append.1 hi with hi | hi
          · exact hok i hi
          · obtain ⟨e, he, rfl⟩ := List.mem_map.1 hi
            exact Nat.le_trans (k2 e he).1 (by decide)
        have hw' : wS (its0 ++ es.map It.e) ≤ 100 := by
          have h1 : wS (its0 ++ es.map It.e) = wS its0 + wS (es.map It.e) := by simp [wS]
          have h2 : ∀ es : List En, (∀ e ∈ es, e.en.length ≤ 12 ∧ e.dis.length ≤ 12) → wS (es.map It.e) ≤ 12 * es.length := by
            intro es
            induction es with
            | nil => intro _; decide
            | cons e es ih =>
              intro h
              rw [List.map_cons, wS_cons, List.length_cons]
              have := ih fun x hx => h x (List.mem_cons_of_mem _ hx)
              have := (h e (List.mem_cons_self ..)).2
              show e.dis.length + _ ≤ _
              omega
          have := h2 es k2
          omega
        have hln : (its0 ++ es.map It.e).length < 1997 := by simp; omega
        have hdl : ∀ (its : List It) (l : List Sy), (disAll its l).length ≤ l.length + wS its := by
          intro its
          induction its with
          | nil => intro l; exact Nat.le_refl _
          | cons i its ih =>
            intro l
            have h1 := ih (i.dis l)
            have ha : ∀ (ds l : List Sy), (addAll l ds).length ≤ l.length + ds.length := by
              intro ds
              induction ds with
              | nil => intro l; exact Nat.le_refl _
              | cons d ds ih =>
                intro l
                have h1 := ih (addS l d)
                have h2 := addS_len l d
                show (addAll (addS l d) ds).length ≤ _
                rw [List.length_cons]
                omega
            have h2 : (i.dis l).length ≤ l.length + i.wt := by
              cases i with
              | w k r => exact Nat.le_refl _
              | e x =>
                have := ha x.dis (keepS x l)
                have := keepS_len x l
                show (addAll (keepS x l) x.dis).length ≤ l.length + x.dis.length
                omega
            rw [wS_cons]
            show (disAll its (i.dis l)).length ≤ _
            omega
        have hdl' := hdl (its0 ++ es.map It.e) []
        rw [List.length_nil] at hdl'
        rw [jCall_at (call := jmix jt S6 1999) _ k3, jCall_at (call := jmix jt S6 1999) _ (call17 1997 _ hok' hln (by decide) (by decide) hw' _), jCall_at (call := jmix jt S6 1999) _ (call18 1997 _ hok' hln (by decide) (by decide) hw' _),
          jCall_at (call := jmix jt S6 1999) _ (call16 (disAll (its0 ++ es.map It.e) []) _ 1998 (by omega) (by omega)), asB_at]
        exact ⟨_, rfl⟩
  obtain ⟨s, h⟩ := h
  unfold g6
  unfold BR at h ⊢
  rw [g6_at 4 _ _ 1999 (h0 _ _ _ _), e, h]
  rfl
end Go.Proofs.YtofagfhccgfgmaaGreatDoor.Wo
