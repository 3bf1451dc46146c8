/- The walk of Numbers. -/
import Derived.Test.YtelkanfmhfopnaaNums2
namespace Go.Proofs.Ytelkanfmhfopnaa
open Go.RowKit Go.LawEnd Go.Shelf

/-- what Numbers' iterator reads, as an atom -/
def numA (X B : Nat) (v : Value) (l : List Sp) : Atom where
  P w S := NT w X B v l ∧ ∀ b, S b ↔ NTb X B v b
  lt h hb := h.1.blt ((h.2 _).1 hb)
  keep h hk := ⟨h.1.keep fun b hb => hk b ((h.2 b).2 hb), h.2⟩
theorem hv_num {w0 w : World} {S : Nat → Prop} {X B : Nat} {v : Value} {l : List Sp} {R : List Atom} (h : Hv w0 S (blkA X 61 #[.func (.func 41) #[] #[.pointer (some ⟨B, 0, none⟩)]] :: itA B v l :: R) w) : Hv w0 S (numA X B v l :: R) w := by
  obtain ⟨T, hT, hJ⟩ := Hv.use [blkA X 61 #[.func (.func 41) #[] #[.pointer (some ⟨B, 0, none⟩)]], itA B v l] R h
  refine hJ [numA X B v l] w (Hv.start (Sep.one ?_))
  obtain ⟨S1, S2, h1, h2, _, hu⟩ := hT
  have h3 := h2.out
  refine ⟨⟨h1.1, h3.1⟩, fun b => ?_⟩
  rw [hu b]
  unfold NTb
  rw [h1.2 b, h3.2 b]
theorem numbers_any {T : Nat → Prop} (s : Nat) (l : List Sp) (w : World) (h : Hid (Sep [setA s l] w T)) (hok : l.length ≤ 2000000) :
    Calls Try.prog 25 #[.pointer (some ⟨s, 0, none⟩)] w fun e w' => ∃ X B v, e = .returned (.func (.func 36) #[] #[.pointer (some ⟨X, 0, none⟩)]) ∧ Hv w No [numA X B v l] w' := by
  have hmf : ∀ (fn : Fn) (first cap : Array Value) (w : World), (Instr.makeFunc fn first cap).run Try.prog w = .ok (.func fn first cap) w := fun _ _ _ _ => rfl
  go_enter Try.func25, Try.ntmps25
  go_wp2_with fail
  refine (all_any s l w h hok).mono ?_
  rintro e w1 ⟨B, v, rfl, h1⟩
  have hv0 := h1.alloc 61 #[Value.nilFunc]
  obtain ⟨V, hV⟩ : ∃ V, w1.alloc (.cells #[Value.nilFunc] 61) = V := ⟨_, rfl⟩
  rw [hV] at hv0
  have k0 : V.cell? ⟨w1.heap.size, 0, none⟩ = some Value.nilFunc := by rw [(hv0.blk (i := 0) rfl).cell 0]; rfl
  have k1 := (hv0.blk (i := 0) rfl).frozen 0
  have HV := Lib.hid (hv0.set 0 (.func (.func 41) #[] #[.pointer (some ⟨B, 0, none⟩)]))
  have hst : (store ⟨w1.heap.size, 0, none⟩ (.func (.func 41) #[] #[.pointer (some ⟨B, 0, none⟩)])).run Try.prog V = .ok () (V.setCell ⟨w1.heap.size, 0, none⟩ (.func (.func 41) #[] #[.pointer (some ⟨B, 0, none⟩)])) := by
    rw [run_store _ _ _ _ _ rfl, k0, k1]; rfl
  have k2 : (V.setCell ⟨w1.heap.size, 0, none⟩ (.func (.func 41) #[] #[.pointer (some ⟨B, 0, none⟩)])).cell? ⟨w1.heap.size, 0, none⟩ = some (.func (.func 41) #[] #[.pointer (some ⟨B, 0, none⟩)]) := World.cell?_setCell_same _ _ _ k0
  clear h1 hv0
  go_wp2
  go_ret
  exact ⟨_, B, v, rfl, hv_num HV.out⟩
theorem not_nil_nums (x : Option Addr) (W : World) : (binOp BinOp.eql 53 (.func (.func 36) #[] #[.pointer x]) Value.nilFunc).run Try.prog W = .ok (.bool false) W := by kernel_rfl
end Go.Proofs.Ytelkanfmhfopnaa
