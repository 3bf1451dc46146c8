/- The walk of Copy. -/
import Derived.Test.YtelkanfmhfopnaaIt
namespace Go.Proofs.Ytelkanfmhfopnaa
open Go.RowKit Go.LawEnd Go.Shelf

theorem copy_any {T : Nat → Prop} (s : Nat) (l : List Sp) (w : World) (h : Hid (Sep [setA s l] w T)) (hok : l.length ≤ 2000000) :
    Calls Try.prog 26 #[.pointer (some ⟨s, 0, none⟩)] w fun e w' => ∃ s', e = .returned (.pointer (some ⟨s', 0, none⟩)) ∧ Hv w No [setA s' l] w' := by
  obtain ⟨v, hv⟩ := (Hv.start h.out).open_
  have hr := hv.row (i := 1) rfl
  have h0 : l = [] → v = .slice none 0 0 := hv.pure_ (i := 2) rfl
  have c0 : w.cell? ⟨s, 0, none⟩ = some v := by simpa using (hv.blk (i := 0) rfl).cell 0
  have HC := Lib.hid (clone_any l w hr h0 (by omega))
  obtain ⟨A, c, rfl, _⟩ := SpArg.of_own hr
  clear hr h0 hv
  go_enter Try.func26, Try.ntmps26
  go_wp2_with fail
  refine HC.out.mono ?_
  rintro e w1 ⟨v', rfl, h1, h10⟩
  obtain ⟨A', c', rfl, _⟩ := SpArg.of_own (h1.row (i := 0) rfl)
  have HV := Lib.hid h1
  have HZ := Lib.hid h10
  clear h1 h10 c0 HC
  go_wp2
  go_ret
  exact ⟨w1.heap.size, rfl, hv_mkSet (HV.out.alloc 59 #[.slice A' l.length c']) HZ.out⟩
end Go.Proofs.Ytelkanfmhfopnaa
