/- All of an index: the call, and its iterator's contract. -/
import Derived.Test.YtofeodhekpnpaaaIter
import Derived.Test.YtofeodhekpnpaaaCopy
namespace Go.Proofs.Ytofeodhekpnpaaa
open Go.RowKit Go.LawEnd Go.Shelf

section
variable {w : World} {x b n slots : Nat} {g : Rowd} {l : Pls} {f : Ats}
theorem all_any (fr N : Int) (h : Hid (Idx w x g b n l f slots)) (hl : l.length ≤ 4096) :
    Calls Try.prog 19 #[.pointer (some ⟨x, 0, none⟩), .agg #[.int .i64 fr, .int .i64 N]] w fun e w' => ∃ (B1 B2 : Nat) (g' : Rowd), e = .returned (.func (.func 35) #[] #[.pointer (some ⟨B1, 0, none⟩), .pointer (some ⟨B2, 0, none⟩)]) ∧
      IT w' B1 B2 g' l fr N ∧ w.heap.size ≤ B1 ∧ w.heap.size ≤ B2 ∧ w.heap.size ≤ g'.g ∧ Below w.heap.size w w' := by
  have h1 := h.out.below (Below.refl w.heap.size w) (Nat.le_refl _)
  have c0 : w.cell? ⟨x, 0, none⟩ = some (.slice (some ⟨g, 0, none⟩) l.length g.cap) := by simpa using h1.head.cell 0
  have lx := h1.head.lt
  obtain ⟨w2, hw2⟩ : ∃ y, y = (w.alloc (.cells #[.int .i64 fr, .int .i64 N] 46)).alloc (.cells #[.slice none 0 0] 51) := ⟨_, rfl⟩
  have HW2 : Hid (w2 = (w.alloc (.cells #[.int .i64 fr, .int .i64 N] 46)).alloc (.cells #[.slice none 0 0] 51)) := hw2
  have HB2 : Hid (Below w.heap.size w w2) := by rw [hw2]; exact ((Below.refl _ w).alloc (Nat.le_refl _) _).alloc (by simp) _
  have HK2 : Hid (Blk w2 w.heap.size 46 #[.int .i64 fr, .int .i64 N]) := by rw [hw2]; exact (Blk.new w _ _).alloc _
  have HK1 : Hid (Blk w2 (w.heap.size + 1) 51 #[.slice none 0 0]) := by
    rw [hw2]
    have := Blk.new (w.alloc (.cells #[.int .i64 fr, .int .i64 N] 46)) 51 #[.slice none 0 0]
    rwa [World.size_alloc] at this
  have HI2 : Hid (Idx w2 x g b n l f slots) := h.out.below HB2.out (Nat.le_refl _)
  clear h1 hw2
  go_enter Try.func19, Try.ntmps19
  go_wp2_with fail
  rw [← HW2.out]
  refine (clonep_any HI2.out hl).mono ?_
  rintro e w3 ⟨g', rfl, hr, hg, hb⟩
  have HK2' := Lib.hid (HK2.out.below hb HK2.out.lt)
  have HK1' := Lib.hid (HK1.out.below hb HK1.out.lt)
  have HB3 := Lib.hid (keep_call HB2.out hb)
  have HR := Lib.hid hr
  have hg2 : w.heap.size + 1 < g'.g := by have h1 := HK1.out.lt; omega
  have k0 : w3.cell? ⟨w.heap.size + 1, 0, none⟩ = some (.slice none 0 0) := by simpa using HK1'.out.cell 0
  have k1 := HK1'.out.frozen 0
  clear hr hg hb HW2 HB2 HK2 HK1 HI2 c0
  go_wp2
  go_ret
  refine ⟨_, _, g', rfl, ⟨?_, ?_, ?_⟩, by omega, Nat.le_refl _, by omega, HB3.out.setCell (p := ⟨w.heap.size + 1, 0, none⟩) (Nat.le_succ _) _⟩
  · simpa using HK1'.out.set_ 0 (.slice (some ⟨g', 0, none⟩) l.length g'.cap)
  · exact HK2'.out.far (p := ⟨w.heap.size + 1, 0, none⟩) (by show w.heap.size ≠ w.heap.size + 1; omega) _
  · exact HR.out.far (p := ⟨w.heap.size + 1, 0, none⟩) (by show g'.g ≠ w.heap.size + 1; omega) _
end
abbrev encP (x : Nat × Int × Bool) : Array Value := #[.int .i64 (x.1 : Int), .agg #[.int .i64 x.2.1, .bool x.2.2]]
theorem all_stops (n : Nat) (hn : 1 ≤ n) {w : World} {B1 B2 : Nat} {g : Rowd} {l : Pls} {fr N : Int} (hl : l.length ≤ 4096) {slots : Nat} (hF : Fit slots l) (h : IT w B1 B2 g l fr N) :
    SeqStopsK Fence.wide n Try.prog 35 #[.pointer (some ⟨B1, 0, none⟩), .pointer (some ⟨B2, 0, none⟩)] encP (KpT (ITb B1 B2 g)) (fun ys => ys = itemsTo l fr N l.length) (fun pre => ∃ k, k ≤ l.length ∧ pre = itemsTo l fr N k) l.length w := by
  intro l0 J Jx W hW hJ _ hY h0
  exact all1_in n hn l0 B1 B2 g l fr N hl hF J Jx W hJ hY (h.below hW (Nat.le_refl _)) h0
end Go.Proofs.Ytofeodhekpnpaaa
