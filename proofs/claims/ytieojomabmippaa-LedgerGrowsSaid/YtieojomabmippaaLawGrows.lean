/- LedgerGrows: for every two sizes, all calls, and every slot and block the law returns true, and its arguments read behind the call as they read before. -/
import Derived.Test.YtieojomabmippaaRows
import Derived.Test.YtieojomabmippaaEnd
import Derived.Test.YtieojomabmippaaGrows
import Derived.Test.YtieojomabmippaaOpenInts
import Derived.Test.YtieojomabmippaaAppAny
import Derived.ProofKit
import Derived.OpenShut
import Derived.SizedLaws
namespace Go.Proofs.Ytieojomabmippaa.LawGrows
open Go.ChangeShapes Go.WideShapes Go.ChangeAt Go.RowKit

theorem own : ownKnob Try.prog.godebug = none := by kernel_rfl
theorem laidOut : laidOutB Try.prog = true := by kernel_rfl
theorem readable : ∀ t ∈ Try.f3.params.toList, Try.prog.readableRec t = true ∧ t < Try.prog.types.size := by
  rw [Try.params3]
  intro t ht
  simp only [List.mem_cons, List.not_mem_nil, or_false] at ht
  rcases ht with rfl | rfl | rfl
  · exact ⟨by kernel_rfl, of_decide_eq_true (by kernel_rfl)⟩
  · exact ⟨by kernel_rfl, of_decide_eq_true (by kernel_rfl)⟩
  · exact ⟨by kernel_rfl, of_decide_eq_true (by kernel_rfl)⟩

set_option maxRecDepth 100000 in
theorem lifted (os : Os) (started : os.Started) (H : Type) (enc : TypeId × Value → H) :
    ReturnsInHanded {} Try.checked os 3 .any (Rows.ledgerGrowsSpec.pre6 enc Try.prog Try.f3 Rows.ledgerGrowsRow.domain false) (Rows.ledgerGrowsSpec.post enc Try.prog Try.f3 false true false false) := by
  refine returnsInHanded_of_change_sized (C := Try.checked) own started (by kernel_rfl) Try.func3
    (ChangeSpec.witness6 (enc := enc) (C := Try.checked) false ⟨#[], #[.agg #[.int .i64 0, .int .i64 0], .slice none 0 0, .agg #[.int .i64 0, .int .i64 0]], []⟩ 8 (by kernel_rfl) (by kernel_rfl) (by kernel_rfl) (by kernel_rfl)) ?_
  intro W base args ds gs before hval0 hW _ hsz _
  have hval : ∀ (j : Nat) t v, Try.f3.params[j]? = some t → args[j]? = some v → Value.okWide Try.prog W .any base t v := hval0
  have hW' := hW
  have hlt : ∀ x ∈ before, x.block < W.heap.size := fun x hx => hW'.lt x hx
  obtain ⟨p, q, hA0, hV, rfl, hfz, hnd⟩ := hW
  have hA : DataW.TrodAll enc Try.prog W 0 (fun _ => true) true Try.f3.params.toList args.toList ds p := hA0
  rw [Try.params3] at hA hval
  obtain ⟨v0, v1, v2, d0, d1, d2, p0, p1, p2, rfl, rfl, rfl, h0, h1, h2⟩ := trodAll_three hA
  obtain ⟨rfl, rfl⟩ := trodVars_none hV
  obtain ⟨a, b, rfl, _, _⟩ := LawEnd.open_two_ints Try.underlying22 Try.underlying3 (by kernel_rfl) (by kernel_rfl) (hval 0 22 v0 rfl rfl) h0
  obtain ⟨A1, c1, l, rfl, hcl⟩ := open_oqs (hval 1 23 v1 rfl rfl) h1
  obtain ⟨p, q, rfl, _, _⟩ := LawEnd.open_two_ints Try.underlying22 Try.underlying3 (by kernel_rfl) (by kernel_rfl) (hval 2 22 v2 rfl rfl) h2
  have hC : Calls Try.prog 3 #[.agg #[.int .i64 a, .int .i64 b], .slice A1 l.length c1, .agg #[.int .i64 p, .int .i64 q]] W (Yes W) := by
    cases hr : rightB a b
    · exact grows_bad A1 c1 a b p q l W (Lib.hid (.inl hr))
    · by_cases h60 : l.length ≤ 60
      · have hr2 : 1 ≤ a ∧ a ≤ 12 ∧ 1 ≤ b ∧ b ≤ 20 := of_decide_eq_true hr
        obtain ⟨n, rfl⟩ := Int.eq_ofNat_of_zero_le (show 0 ≤ a by omega)
        obtain ⟨m, rfl⟩ := Int.eq_ofNat_of_zero_le (show 0 ≤ b by omega)
        exact grows_good A1 c1 n m p q l W (Lib.hid (by omega)) (Lib.hid hcl)
      · exact grows_bad A1 c1 a b p q l W (Lib.hid (.inr (by omega)))
  refine hC.mono fun e W' ⟨he, hb⟩ => ⟨_, he, ?_⟩
  exact LawEnd.law_post laidOut readable (by kernel_rfl) Try.underlying4 rfl hW' rfl hb

theorem said : Rows.LedgerGrowsSaid :=
  OpenClaim.holds_of_wide 3 Try.f3 rfl rfl rfl rfl rfl rfl rfl ⟨rfl, rfl, rfl, rfl, rfl⟩ rfl rfl rfl rfl rfl (by kernel_rfl) Try.func3 (by kernel_rfl)
    (of_decide_eq_true (by kernel_rfl)) (by unfold Func.isWrapper; first | (rw [if_pos (by decide +kernel)]; kernel_rfl) | (rw [if_neg (by decide +kernel)]; exact ⟨rfl, rfl⟩))
    (fun os started H enc _ => lifted os started H enc)
#print axioms said
end Go.Proofs.Ytieojomabmippaa.LawGrows
