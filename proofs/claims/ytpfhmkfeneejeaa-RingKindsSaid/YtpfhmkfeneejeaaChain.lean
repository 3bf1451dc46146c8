/- The walk of RingChain. -/
import Derived.Test.YtpfhmkfeneejeaaAwake
import Derived.Test.YtpfhmkfeneejeaaOwns
import Derived.Test.YtpfhmkfeneejeaaAppAny
namespace Go.Proofs.Ytpfhmkfeneejeaa
open Go.RowKit Go.LawEnd Go.Conc

theorem own_ring0 {w w1 : World} {p c cap B k : Nat} {v : Value} {cl : Bool} {xs q : List Value} (ho : w.ownsRow B 3 1 v k xs) (hr : Ring 76 w p c cap q cl) (hc : Ch (fun j => j = c) w w1) : w1.ownsRow B 3 1 v k xs :=
  ho.kept (Ch.toGrown hc) (RInt.own_not_chan ho hr)
theorem Ring.keep {t : TypeId} {w w' : World} {p c c' cap : Nat} {q : List Value} {cl : Bool} (h : Ring t w p c cap q cl) (hc : Ch (fun k => k = c') w w') (hcc : c ≠ c') (hpc : p ≠ c') : Ring t w' p c cap q cl :=
  h.ch hc hpc hcc
theorem ring_not_chan {t t' : TypeId} {w : World} {p c cap p' c' cap' : Nat} {q q' : List Value} {cl cl' : Bool} (h : Ring t w p c cap q cl) (h' : Ring t' w p' c' cap' q' cl') : p ≠ c' := by
  rintro rfl
  have h1 := h.head
  obtain ⟨s, r, h2⟩ := h'.chan
  unfold Blk at h1
  rw [h1] at h2
  cases h2

/-- two rings, and the rows of what was put and what was got -/
structure Chn (w wr : World) (p c n1 p' c' n2 : Nat) (vp vg : Value) (P G q q' : List Int) : Prop where
  put : wr.ownsRow w.heap.size 3 1 vp P.length (ints P)
  got : wr.ownsRow w.heap.size 3 1 vg G.length (ints G)
  apart : Ap vg vp
  ra : Ring 76 wr p c n1 (ints q) false
  rb : Ring 76 wr p' c' n2 (ints q') false
  below : Below w.heap.size w wr

section
variable {w wr w2 : World} {p c n1 p' c' n2 : Nat} {vp vg : Value} {P G q q' q2 : List Int}
theorem Chn.opa (h : Chn w wr p c n1 p' c' n2 vp vg P G q q') (hr : Ring 76 w2 p c n1 (ints q2) false) (hc : Ch (fun k => k = c) wr w2) (hcc : c ≠ c') (hcl : w.heap.size ≤ c) : Chn w w2 p c n1 p' c' n2 vp vg P G q2 q' :=
  ⟨own_ring0 h.put h.ra hc, own_ring0 h.got h.ra hc, h.apart, hr, h.rb.keep hc (Ne.symm hcc) (ring_not_chan h.rb h.ra), Ch.after h.below hc h.below.size (fun j hj => by omega)⟩
theorem Chn.opb (h : Chn w wr p c n1 p' c' n2 vp vg P G q q') (hr : Ring 76 w2 p' c' n2 (ints q2) false) (hc : Ch (fun k => k = c') wr w2) (hcc : c ≠ c') (hcl : w.heap.size ≤ c') : Chn w w2 p c n1 p' c' n2 vp vg P G q q2 :=
  ⟨own_ring0 h.put h.rb hc, own_ring0 h.got h.rb hc, h.apart, h.ra.keep hc hcc (ring_not_chan h.ra h.rb), hr, Ch.after h.below hc h.below.size (fun j hj => by omega)⟩
theorem Chn.on (h : Chn w wr p c n1 p' c' n2 vp vg P G q q') (hb : Below wr.heap.size wr w2) : Chn w w2 p c n1 p' c' n2 vp vg P G q q' := by
  have hall : OwnAll w.heap.size wr [⟨vg, 3, 1, G.length, ints G⟩, ⟨vp, 3, 1, P.length, ints P⟩] :=
    ⟨by intro r hr; simp at hr; rcases hr with rfl | rfl; exact h.got; exact h.put, by simpa using h.apart⟩
  have ha := hall.below hb (Nat.le_refl _)
  exact ⟨ha.own ⟨vp, 3, 1, P.length, ints P⟩ (by simp), ha.own ⟨vg, 3, 1, G.length, ints G⟩ (by simp), h.apart, h.ra.below hb h.ra.plt h.ra.clt, h.rb.below hb h.rb.plt h.rb.clt, keep_call h.below hb⟩
theorem ring_keep_grown {w1 w2 : World} {p c cap B k : Nat} {v : Value} {cl : Bool} {xs q : List Value} (hr : Ring 76 w1 p c cap q cl) (ho : w1.ownsRow B 3 1 v k xs) (hg : w1.grownBy w2 v.ownBlock) : Ring 76 w2 p c cap q cl := by
  have N1 := RInt.own_not_chan ho hr
  have N2 := RInt.own_not_head ho hr
  refine hr.ch (Ch.grownBy hg) (fun h => ?_) (fun h => ?_)
  · rcases N2 with n | n
    · rw [n] at h; cases h
    · exact n h
  · rcases N1 with n | n
    · rw [n] at h; cases h
    · exact n h
/-- the row of what was got has grown -/
theorem Chn.gotten {v' : Value} {ys : List Int} (h : Chn w wr p c n1 p' c' n2 vp vg P G q q') (ho : w2.ownsRow w.heap.size 3 1 v' (G.length + ys.length) (ints G ++ ints ys)) (hg : wr.grownBy w2 vg.ownBlock) (hat : v'.ownBlock = vg.ownBlock ∨ v'.ownBlock = some wr.heap.size) : Chn w w2 p c n1 p' c' n2 vp v' P (G ++ ys) q q' := by
  have hall : OwnAll w.heap.size wr [⟨vg, 3, 1, G.length, ints G⟩, ⟨vp, 3, 1, P.length, ints P⟩] :=
    ⟨by intro r hr; simp at hr; rcases hr with rfl | rfl; exact h.got; exact h.put, by simpa using h.apart⟩
  have ha := OwnAll.step (r := ⟨vg, 3, 1, G.length, ints G⟩) (r' := ⟨v', 3, 1, G.length + ys.length, ints G ++ ints ys⟩) [] [⟨vp, 3, 1, P.length, ints P⟩] hall hg ho (hat.elim .inl (fun e => .inr ⟨_, Nat.le_refl _, e⟩))
  refine ⟨ha.own ⟨vp, 3, 1, P.length, ints P⟩ (by simp), by simpa [ints] using ho, (List.pairwise_cons.1 ha.apart).1 ⟨vp, 3, 1, P.length, ints P⟩ (by simp), ring_keep_grown h.ra h.got hg, ring_keep_grown h.rb h.got hg, h.below.grown hg h.below.size (fun j hj => (h.got.lt j hj).1)⟩
theorem Chn.putted {v' : Value} {ys : List Int} (h : Chn w wr p c n1 p' c' n2 vp vg P G q q') (ho : w2.ownsRow w.heap.size 3 1 v' (P.length + ys.length) (ints P ++ ints ys)) (hg : wr.grownBy w2 vp.ownBlock) (hat : v'.ownBlock = vp.ownBlock ∨ v'.ownBlock = some wr.heap.size) : Chn w w2 p c n1 p' c' n2 v' vg (P ++ ys) G q q' := by
  have hall : OwnAll w.heap.size wr [⟨vg, 3, 1, G.length, ints G⟩, ⟨vp, 3, 1, P.length, ints P⟩] :=
    ⟨by intro r hr; simp at hr; rcases hr with rfl | rfl; exact h.got; exact h.put, by simpa using h.apart⟩
  have ha := OwnAll.step (r := ⟨vp, 3, 1, P.length, ints P⟩) (r' := ⟨v', 3, 1, P.length + ys.length, ints P ++ ints ys⟩) [⟨vg, 3, 1, G.length, ints G⟩] [] hall hg ho (hat.elim .inl (fun e => .inr ⟨_, Nat.le_refl _, e⟩))
  refine ⟨by simpa [ints] using ho, ha.own ⟨vg, 3, 1, G.length, ints G⟩ (by simp), (List.pairwise_cons.1 ha.apart).1 ⟨v', 3, 1, P.length + ys.length, ints P ++ ints ys⟩ (by simp), ring_keep_grown h.ra h.put hg, ring_keep_grown h.rb h.put hg, h.below.grown hg h.below.size (fun j hj => (h.put.lt j hj).1)⟩
theorem Chn.gform (h : Chn w wr p c n1 p' c' n2 vp vg P G q q') : ∃ A cp, vg = .slice A G.length cp := (Rd.of_own h.got).form
theorem Chn.pform (h : Chn w wr p c n1 p' c' n2 vp vg P G q q') : ∃ A cp, vp = .slice A P.length cp := (Rd.of_own h.put).form
end
end Go.Proofs.Ytpfhmkfeneejeaa
