/- The walk of does, with a document's index that is fresh. -/
import Derived.Test.YtofeodhekpnpaaaDoes
namespace Go.Proofs.Ytofeodhekpnpaaa
open Go.RowKit Go.LawEnd

section
variable {w : World} {B r k slots : Nat} {vS vD : Value}
theorem ref_put_st (i s : Int) (d : Bool) (h : Hid (RI B w r k slots vS vD (List.replicate k (-1)) (List.replicate k false))) (hk : k ≤ 4096) :
    Calls Try.prog 25 #[.pointer (some ⟨r, 0, none⟩), .int .i64 i, .int .i64 s, .bool d] w fun e w' => ∃ (p : Int) (q : Bool) (e1 : Int), e = .returned (.tuple #[.int .i64 p, .bool q, .int .i64 e1]) ∧ Below B w w' ∧ Ch (fun j => vS.ownBlock = some j ∨ vD.ownBlock = some j) w w' := by
  by_cases ho : (i < 0 ∨ (k : Int) ≤ i) ∨ s < 0 ∨ (slots : Int) ≤ s
  · refine (ref_put_out i s d h ho).mono ?_
    rintro e w' ⟨rfl, rfl⟩
    exact ⟨_, _, _, rfl, Below.refl _ _, Ch.refl _ _⟩
  · obtain ⟨j, rfl⟩ : ∃ j : Nat, i = j := ⟨i.toNat, by omega⟩
    have hj : j < k := by omega
    have hn : Hid (∀ x, x ∈ List.replicate k (-1 : Int) → (x == s) = false) := fun x hx => by
      rw [List.eq_of_mem_replicate hx, beq_eq_false_iff_ne]; omega
    refine (ref_put_ok j s (-1) d false h hj hk (by omega) (by omega) (by show _ = _; rw [List.getElem?_replicate, if_pos hj]) (by show _ = _; rw [List.getElem?_replicate, if_pos hj]) hn).mono ?_
    rintro e w' ⟨rfl, hb, hc⟩
    exact ⟨_, _, _, rfl, hb, hc⟩
theorem ref_drop_st (i : Int) (h : Hid (RI B w r k slots vS vD (List.replicate k (-1)) (List.replicate k false))) :
    Calls Try.prog 27 #[.pointer (some ⟨r, 0, none⟩), .int .i64 i] w fun e w' => ∃ (p : Int) (q : Bool) (e1 : Int), e = .returned (.tuple #[.int .i64 p, .bool q, .int .i64 e1]) ∧ w = w' := by
  by_cases ho : i < 0 ∨ (k : Int) ≤ i
  · refine (ref_drop_out i h ho).mono ?_
    rintro e w' ⟨rfl, rfl⟩
    exact ⟨_, _, _, rfl, rfl⟩
  · obtain ⟨j, rfl⟩ : ∃ j : Nat, i = j := ⟨i.toNat, by omega⟩
    have hj : j < k := by omega
    refine (ref_drop_none j (-1) h hj (by rw [List.getElem?_replicate, if_pos hj]) (by omega)).mono ?_
    rintro e w' ⟨rfl, rfl⟩
    exact ⟨_, _, _, rfl, rfl⟩
theorem ref_clean_st (i : Int) (h : Hid (RI B w r k slots vS vD (List.replicate k (-1)) (List.replicate k false))) :
    Calls Try.prog 28 #[.pointer (some ⟨r, 0, none⟩), .int .i64 i] w fun e w' => ∃ (e1 : Int), e = .returned (.int .i64 e1) ∧ w = w' := by
  by_cases ho : i < 0 ∨ (k : Int) ≤ i
  · refine (ref_clean_out i h ho).mono ?_
    rintro e w' ⟨rfl, rfl⟩
    exact ⟨_, rfl, rfl⟩
  · obtain ⟨j, rfl⟩ : ∃ j : Nat, i = j := ⟨i.toNat, by omega⟩
    have hj : j < k := by omega
    refine (ref_clean_none j (-1) h hj (by rw [List.getElem?_replicate, if_pos hj]) (by omega)).mono ?_
    rintro e w' ⟨rfl, rfl⟩
    exact ⟨_, rfl, rfl⟩
theorem own_ch {e : TypeId} {m size : Nat} {v : Value} {xs : List Value} {S : Nat → Prop} {w' : World} (h : w.ownsRow B e size v m xs) (hc : Ch S w w') (hS : ∀ b, v.ownBlock = some b → ¬ S b) : w'.ownsRow B e size v m xs := by
  refine ⟨h.1, ?_⟩
  rcases h.2 with h0 | ⟨g, cap, cur, rfl, hb, hg, rest⟩
  · exact .inl h0
  · exact .inr ⟨g, cap, cur, rfl, hb, by rw [hc.block g (Array.getElem?_eq_some_iff.1 hg).1 (hS g rfl)]; exact hg, rest⟩
/-- what is turned below B leaves the document's index -/
theorem RI.chB {S : Nat → Prop} {w' : World} {sl : List Int} {dl : List Bool} (h : RI B w r k slots vS vD sl dl) (hc : Ch S w w') (hS : ∀ j, S j → j < B) : RI B w' r k slots vS vD sl dl :=
  ⟨h.head.ch hc (fun e => by have := hS _ e; have := h.rB; omega), own_ch h.rowS hc (fun b hb e => by have := hS _ e; have := (h.rowS.lt b hb).1; omega), own_ch h.rowD hc (fun b hb e => by have := hS _ e; have := (h.rowD.lt b hb).1; omega), h.rB⟩
end
end Go.Proofs.Ytofeodhekpnpaaa
