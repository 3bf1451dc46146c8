/- The walk of does: one call of both. -/
import Derived.Test.YtpfhmkfeneejeaaRef
namespace Go.Proofs.Ytpfhmkfeneejeaa
open Go.RowKit Go.LawEnd Go.Conc

/-- a ring and the document's, alike -/
structure Both (w wr : World) (p c x n : Nat) (q : List Int) (cl : Bool) : Prop where
  ring : Ring 76 wr p c n (ints q) cl
  ref : ∃ vL, Ref w.heap.size wr x n vL q cl
  below : Below w.heap.size w wr
  len : q.length ≤ n

section
variable {w wr w' : World} {p c x n : Nat} {q q' : List Int} {cl cl' : Bool}
theorem Ref.ring_ch {B : Nat} {vL : Value} (h : Ref B w x n vL q cl) (hr : Ring 76 w p c n (ints q') cl') (hc : Ch (fun k => k = p ∨ k = c) w w') : Ref B w' x n vL q cl := by
  refine h.ch hc ?_ ?_
  · rintro (rfl | rfl)
    · exact Blk.ne_ h.head hr.head (by decide) rfl
    · obtain ⟨s, r, hh⟩ := hr.chan
      have := h.head
      unfold Blk at this
      rw [this] at hh
      cases hh
  · rintro b hb (rfl | rfl)
    · exact h.row.ne_blk hr.head (by decide) hb
    · obtain ⟨cur, hcur⟩ := h.row.obj hb
      obtain ⟨s, r, hh⟩ := hr.chan
      rw [hcur] at hh
      cases hh
theorem Ring.ref_ch {B : Nat} {vL : Value} (hr : Ring 76 w p c n (ints q') cl') (h : Ref B w x n vL q cl) (hc : Ch (fun k => k = x ∨ vL.ownBlock = some k) w w') : Ring 76 w' p c n (ints q') cl' := by
  refine hr.ch hc ?_ ?_
  · rintro (rfl | hb)
    · exact Blk.ne_ h.head hr.head (by decide) rfl
    · exact h.row.ne_blk hr.head (by decide) hb
  · rintro (rfl | hb)
    · obtain ⟨s, r, hh⟩ := hr.chan
      have := h.head
      unfold Blk at this
      rw [this] at hh
      cases hh
    · obtain ⟨cur, hcur⟩ := h.row.obj hb
      obtain ⟨s, r, hh⟩ := hr.chan
      rw [hcur] at hh
      cases hh
theorem Ref.below {B C : Nat} {vL : Value} (h : Ref B w x n vL q cl) (hb : Below C w w') (hC : w.heap.size ≤ C) : Ref B w' x n vL q cl :=
  ⟨h.head.below hb (by have := h.head.lt; omega), h.row.below hb hC, h.xB⟩
/-- blocks that neither has -/
theorem Ref.far {B : Nat} {vL : Value} (h : Ref B w x n vL q cl) {g : Nat} {t : TypeId} {cs : Array Value} (hk : Blk w g t cs) (h1 : t ≠ 3) (h2 : t ≠ 59) : ¬ (g = x ∨ vL.ownBlock = some g) := by
  rintro (rfl | hb)
  · exact Blk.ne_ hk h.head h2 rfl
  · exact h.row.ne_blk hk (Ne.symm h1) hb
theorem Ring.far {t : TypeId} {g : Nat} {cs : Array Value} (hr : Ring 76 w p c n (ints q') cl') (hk : Blk w g t cs) : g ≠ c := by
  rintro rfl
  obtain ⟨s, r, hh⟩ := hr.chan
  unfold Blk at hk
  rw [hk] at hh
  cases hh
end

theorem World.grownBy_setCell_ (w : World) (a : Addr) (u : Value) : w.grownBy (w.setCell a u) (some a.block) :=
  ⟨rfl, rfl, rfl, by simp [World.setCell], fun k _ hk => Below.heap_setCell w a u k (fun e => hk (by rw [e]))⟩

/-- what does comes to -/
def Alike (w : World) (p c x n : Nat) (e : Ending) (w' : World) : Prop := e = .returned (.bool true) ∧ ∃ q' cl', Both w w' p c x n q' cl'

variable {w wr : World} {p c x n : Nat} {q : List Int} {cl : Bool}

theorem both_mk {w2 w3 : World} {vL v3 : Value} {q2 : List Int} {cl2 : Bool} (hr : Ring 76 w2 p c n (ints q2) cl2) (hf : Ref w.heap.size w2 x n vL q cl) (hb : Below w.heap.size w w2)
    (hf3 : Ref w.heap.size w3 x n v3 q2 cl2) (hch : Ch (fun k => k = x ∨ vL.ownBlock = some k) w2 w3) (hq : q2.length ≤ n) : Both w w3 p c x n q2 cl2 :=
  ⟨hr.ref_ch hf hch, ⟨v3, hf3⟩, Ch.after hb hch hb.size (fun k hk => hk.elim (fun e => by rw [e]; exact hf.xB) (fun e => (hf.row.lt k e).1)), hq⟩
theorem both_put {w2 w3 : World} {vL v3 : Value} {z : Int} (hr : Ring 76 w2 p c n (ints q ++ [.int .i64 z]) false) (hf : Ref w.heap.size w2 x n vL q false) (hb : Below w.heap.size w w2)
    (hf3 : Ref w.heap.size w3 x n v3 (q ++ [z]) false) (hch : Ch (fun k => k = x ∨ vL.ownBlock = some k) w2 w3) (hq : q.length < n) : Both w w3 p c x n (q ++ [z]) false := by
  rw [← RInt.ints_snoc] at hr
  exact both_mk hr hf hb hf3 hch (by simp; omega)
theorem Both.on {w2 : World} (h : Both w wr p c x n q cl) (hb : Below wr.heap.size wr w2) : Both w w2 p c x n q cl := by
  obtain ⟨vL, hv⟩ := h.ref
  exact ⟨h.ring.below hb h.ring.plt h.ring.clt, ⟨vL, hv.below hb (Nat.le_refl _)⟩, keep_call h.below hb, h.len⟩
/-- the document's ring is closed, or emptied, by a store -/
theorem Ref.shut {B : Nat} {vL : Value} (h : Ref B wr x n vL q cl) : Ref B (wr.setCell ⟨x, 2, none⟩ (.bool true)) x n vL q true ∧ Ch (fun k => k = x ∨ vL.ownBlock = some k) wr (wr.setCell ⟨x, 2, none⟩ (.bool true)) := by
  refine ⟨⟨by simpa using h.head.set_ 2 (.bool true), h.row.kept fun b hb => ?_, h.xB⟩, (Ch.refl _ wr).setCell (.inl (.inl rfl)) _⟩
  exact Below.heap_setCell wr ⟨x, 2, none⟩ _ b (fun e => h.ne (by rw [hb]; exact congrArg some e))
theorem Ref.emptied {B : Nat} {vL : Value} (h : Ref B wr x n vL q cl) : Ref B (wr.setCell ⟨x, 0, none⟩ (.slice none 0 0)) x n (.slice none 0 0) [] cl ∧ Win (wr.setCell ⟨x, 0, none⟩ (.slice none 0 0)) B 3 vL q.length (ints q) ∧ Ch (fun k => k = x ∨ vL.ownBlock = some k) wr (wr.setCell ⟨x, 0, none⟩ (.slice none 0 0)) := by
  refine ⟨⟨by simpa using h.head.set_ 0 (.slice none 0 0), Win.nil_ _ _ _, h.xB⟩, h.row.kept fun b hb => ?_, (Ch.refl _ wr).setCell (.inl (.inl rfl)) _⟩
  exact Below.heap_setCell wr ⟨x, 0, none⟩ _ b (fun e => h.ne (by rw [hb]; exact congrArg some e))

set_option maxRecDepth 100000 in
set_option maxHeartbeats 1600000 in
theorem does_put (z : Int) (hb : Hid (Both w wr p c x n q false)) (hq : q.length < n) (hn : n ≤ 1024) (hcl : w.heap.size ≤ c) :
    Calls Try.prog 25 #[.pointer (some ⟨p, 0, none⟩), .pointer (some ⟨x, 0, none⟩), .agg #[.int .i64 0, .int .i64 z]] wr (Alike w p c x n) := by
  obtain ⟨vL, hv⟩ := hb.out.ref
  have K1 : Hid (Blk (wr.alloc (.cells #[.int .i64 0, .int .i64 z] 62)).drew wr.heap.size 62 #[.int .i64 0, .int .i64 z]) := Blk.new _ _ _
  have A1 : Below wr.heap.size wr (wr.alloc (.cells #[.int .i64 0, .int .i64 z] 62)).drew := Below.drew ((Below.refl _ wr).alloc (Nat.le_refl _) _)
  have HR1 := Lib.hid (hb.out.ring.below A1 hb.out.ring.plt hb.out.ring.clt)
  have HF1 := Lib.hid (hv.below A1 (Nat.le_refl _))
  have HB1 := Lib.hid (keep_call hb.out.below A1)
  have hlen : (ints q).length < n := by rw [ints_length]; exact hq
  have HL := Lib.hid hlen
  clear hb hv hlen A1
  go_enter Try.func25, Try.ntmps25
  go_wp2
  go_region_with (first
    | (refine (RInt.put_room z HR1 HL.out).mono ?_; rintro e w2 ⟨rfl, hr2, hch2, hs2⟩; have HR2 := Lib.hid hr2; have HF2 := Lib.hid (HF1.out.ring_ch HR1.out (hch2.mono (fun k _ h => .inr h))); have K2 := Lib.hid (K1.out.ch hch2 (HR1.out.far K1.out)); have HB2 := Lib.hid (Ch.after HB1.out hch2 HB1.out.size (fun j hj => by omega)); have k2 := K2.out.cell 1; simp at k2; clear hr2 hch2 hs2)
    | (refine (ref_put_room z HF2 hq hn HB2.out.size).mono ?_; rintro e w3 ⟨rfl, v3, hf3, hch3⟩; have HZ := Lib.hid (both_put HR2.out HF2.out HB2.out hf3 hch3 hq); clear hf3 hch3))
  all_goals (go_wp2; go_ret; exact ⟨rfl, _, _, HZ.out⟩)

set_option maxRecDepth 100000 in
set_option maxHeartbeats 1600000 in
theorem does_put_full (z : Int) (hb : Hid (Both w wr p c x n q false)) (hq : n ≤ q.length) :
    Calls Try.prog 25 #[.pointer (some ⟨p, 0, none⟩), .pointer (some ⟨x, 0, none⟩), .agg #[.int .i64 0, .int .i64 z]] wr (Alike w p c x n) := by
  have A1 : Below wr.heap.size wr (wr.alloc (.cells #[.int .i64 0, .int .i64 z] 62)).drew := Below.drew ((Below.refl _ wr).alloc (Nat.le_refl _) _)
  have HX1 := Lib.hid (hb.out.on A1)
  obtain ⟨vL, hv⟩ := HX1.out.ref
  have HR1 := Lib.hid HX1.out.ring
  have HF1 := Lib.hid hv
  have hlen : n ≤ (ints q).length := by rw [ints_length]; exact hq
  have HL := Lib.hid hlen
  clear hb hv hlen A1
  go_enter Try.func25, Try.ntmps25
  go_wp2
  go_region_with (first
    | (refine (RInt.put_full z HR1 HL.out).mono ?_; rintro e w2 ⟨rfl, rfl⟩)
    | (refine (ref_put_full z HF1 hq).mono ?_; rintro e w3 ⟨rfl, hb3, hs3⟩; have HZ := Lib.hid (HX1.out.on hb3); clear hb3 hs3))
  all_goals (go_wp2; go_ret; exact ⟨rfl, _, _, HZ.out⟩)

set_option maxRecDepth 100000 in
set_option maxHeartbeats 1600000 in
theorem does_put_shut (z : Int) (hb : Hid (Both w wr p c x n q true)) :
    Calls Try.prog 25 #[.pointer (some ⟨p, 0, none⟩), .pointer (some ⟨x, 0, none⟩), .agg #[.int .i64 0, .int .i64 z]] wr (Alike w p c x n) := by
  have A1 : Below wr.heap.size wr (wr.alloc (.cells #[.int .i64 0, .int .i64 z] 62)).drew := Below.drew ((Below.refl _ wr).alloc (Nat.le_refl _) _)
  have HX1 := Lib.hid (hb.out.on A1)
  obtain ⟨vL, hv⟩ := HX1.out.ref
  have HR1 := Lib.hid HX1.out.ring
  have HF1 := Lib.hid hv
  clear hb hv A1
  go_enter Try.func25, Try.ntmps25
  go_wp2
  go_region_with (first
    | (refine (RInt.put_shut z HR1).mono ?_; rintro e w2 ⟨rfl, rfl⟩)
    | (refine (ref_put_shut z HF1).mono ?_; rintro e w3 ⟨rfl, rfl⟩))
  all_goals (go_wp2; go_ret; exact ⟨rfl, _, _, HX1.out⟩)

set_option maxRecDepth 100000 in
set_option maxHeartbeats 1600000 in
theorem does_take_some (y z : Int) (hb : Hid (Both w wr p c x n (y :: q) cl)) (hn : n ≤ 1024) (hcl : w.heap.size ≤ c) :
    Calls Try.prog 25 #[.pointer (some ⟨p, 0, none⟩), .pointer (some ⟨x, 0, none⟩), .agg #[.int .i64 1, .int .i64 z]] wr (Alike w p c x n) := by
  have A1 : Below wr.heap.size wr (wr.alloc (.cells #[.int .i64 1, .int .i64 z] 62)) := (Below.refl _ wr).alloc (Nat.le_refl _) _
  have HX1 := Lib.hid (hb.out.on A1)
  obtain ⟨vL, hv⟩ := HX1.out.ref
  have HR1 : Hid (Ring 76 (wr.alloc (.cells #[.int .i64 1, .int .i64 z] 62)) p c n (.int .i64 y :: ints q) cl) := HX1.out.ring
  have HF1 := Lib.hid hv
  have hlen : q.length + 1 ≤ n := by have := hb.out.len; simpa using this
  clear hb hv A1
  go_enter Try.func25, Try.ntmps25
  go_wp2_with fail
  refine (RInt.take_some y HR1).mono ?_
  rintro e w2 ⟨rfl, hr2, hch2, hs2⟩
  have HR2 := Lib.hid hr2
  have HF2 := Lib.hid (HF1.out.ring_ch HX1.out.ring (hch2.mono (fun k _ h => .inr h)))
  have HB2 := Lib.hid (Ch.after HX1.out.below hch2 HX1.out.below.size (fun j hj => by omega))
  clear hr2 hch2 hs2
  go_wp2_with fail
  refine (ref_take_some y HF2 (by omega)).mono ?_
  rintro e w3 ⟨rfl, v3, hf3, hch3⟩
  have HZ := Lib.hid (both_mk HR2.out HF2.out HB2.out hf3 (hch3.mono (fun k _ h => .inl h)) (by omega))
  clear hf3 hch3
  go_wp2
  go_ret
  exact ⟨rfl, _, _, HZ.out⟩

set_option maxRecDepth 100000 in
set_option maxHeartbeats 1600000 in
theorem does_take_none (z : Int) (hb : Hid (Both w wr p c x n [] cl)) :
    Calls Try.prog 25 #[.pointer (some ⟨p, 0, none⟩), .pointer (some ⟨x, 0, none⟩), .agg #[.int .i64 1, .int .i64 z]] wr (Alike w p c x n) := by
  have A1 : Below wr.heap.size wr (wr.alloc (.cells #[.int .i64 1, .int .i64 z] 62)) := (Below.refl _ wr).alloc (Nat.le_refl _) _
  have HX1 := Lib.hid (hb.out.on A1)
  obtain ⟨vL, hv⟩ := HX1.out.ref
  have HR1 := Lib.hid HX1.out.ring
  have HF1 := Lib.hid hv
  clear hb hv A1
  go_enter Try.func25, Try.ntmps25
  go_wp2_with fail
  refine (RInt.take_none HR1).mono ?_
  rintro e w2 ⟨rfl, rfl⟩
  go_wp2_with fail
  refine (ref_take_none HF1).mono ?_
  rintro e w3 ⟨rfl, rfl⟩
  go_wp2
  go_ret
  exact ⟨rfl, _, _, HX1.out⟩

set_option maxRecDepth 100000 in
set_option maxHeartbeats 1600000 in
theorem does_close (z : Int) (hb : Hid (Both w wr p c x n q cl)) (hcl : w.heap.size ≤ c) (hpl : w.heap.size ≤ p) :
    Calls Try.prog 25 #[.pointer (some ⟨p, 0, none⟩), .pointer (some ⟨x, 0, none⟩), .agg #[.int .i64 2, .int .i64 z]] wr (Alike w p c x n) := by
  have A1 : Below wr.heap.size wr (wr.alloc (.cells #[.int .i64 2, .int .i64 z] 62)) := (Below.refl _ wr).alloc (Nat.le_refl _) _
  have HX1 := Lib.hid (hb.out.on A1)
  obtain ⟨vL, hv⟩ := HX1.out.ref
  have HR1 := Lib.hid HX1.out.ring
  have HF1 := Lib.hid hv
  clear hb hv A1
  cases cl
  · go_enter Try.func25, Try.ntmps25
    go_wp2_with fail
    refine (RInt.close_yes HR1).mono ?_
    rintro e w2 ⟨rfl, hr2, hch2, hs2⟩
    have HR2 := Lib.hid hr2
    have HF2 := Lib.hid (HF1.out.ring_ch HX1.out.ring hch2)
    have HB2 := Lib.hid (Ch.after HX1.out.below hch2 HX1.out.below.size (fun j hj => by omega))
    clear hr2 hch2 hs2
    have c2 := HF2.out.head.cell 2
    have f2 := HF2.out.head.frozen 2
    simp at c2
    go_wp2
    go_ret
    have hs := HF2.out.shut
    exact ⟨rfl, _, _, both_mk HR2.out HF2.out HB2.out hs.1 hs.2 HX1.out.len⟩
  · have c2 := HF1.out.head.cell 2
    have f2 := HF1.out.head.frozen 2
    simp at c2
    go_enter Try.func25, Try.ntmps25
    go_wp2_with fail
    refine (RInt.close_no HR1).mono ?_
    rintro e w2 ⟨rfl, rfl⟩
    go_wp2
    go_ret
    have hs := HF1.out.shut
    exact ⟨rfl, _, _, both_mk HR1.out HF1.out HX1.out.below hs.1 hs.2 HX1.out.len⟩

set_option maxRecDepth 100000 in
set_option maxHeartbeats 1600000 in
theorem does_drain (a z : Int) (ha0 : (a == 0) = false) (ha1 : (a == 1) = false) (ha2 : (a == 2) = false) (hb : Hid (Both w wr p c x n q cl)) (hn : n ≤ 1024) (hcl : w.heap.size ≤ c) :
    Calls Try.prog 25 #[.pointer (some ⟨p, 0, none⟩), .pointer (some ⟨x, 0, none⟩), .agg #[.int .i64 a, .int .i64 z]] wr (Alike w p c x n) := by
  have A1 : Below wr.heap.size wr (wr.alloc (.cells #[.int .i64 a, .int .i64 z] 62)) := (Below.refl _ wr).alloc (Nat.le_refl _) _
  have HX1 := Lib.hid (hb.out.on A1)
  obtain ⟨vL, hv⟩ := HX1.out.ref
  have HR1 := Lib.hid HX1.out.ring
  have HF1 := Lib.hid hv
  have hlen := HX1.out.len
  have hxl := Lib.hid hv.head.lt
  clear hb hv A1
  go_enter Try.func25, Try.ntmps25
  go_wp2_with fail
  refine (RInt.drain_any p c n cl q _ (by omega) HR1).mono ?_
  rintro e w2 ⟨v, rfl, hown, hr2, hch2⟩
  have HR2 := Lib.hid hr2
  have HF2 := Lib.hid (HF1.out.ring_ch HX1.out.ring (hch2.mono (fun k _ h => .inr h)))
  have HB2 := Lib.hid (Ch.after HX1.out.below hch2 HX1.out.below.size (fun j hj => by omega))
  obtain ⟨Aw, cw, rfl⟩ := (Rd.of_own hown).form
  obtain ⟨AL, cL, rfl⟩ := HF2.out.form
  have HE := Lib.hid HF2.out.emptied
  have HO : Hid ((w2.setCell ⟨x, 0, none⟩ (.slice none 0 0)).ownsRow _ 3 1 (.slice Aw q.length cw) q.length (ints q)) :=
    hown.kept (World.grownBy_setCell_ w2 ⟨x, 0, none⟩ (.slice none 0 0)) (by
      cases hv : (Value.slice Aw q.length cw).ownBlock with
      | none => exact .inl rfl
      | some b => right; intro e; have := (hown.lt b hv).1; have := hxl.out; simp at e; omega)
  have c0 := HF2.out.head.cell 0
  have f0 := HF2.out.head.frozen 0
  simp at c0
  clear hr2 hch2 hown
  go_wp2_with fail
  refine (ints_any _ _ q.length q.length q q _ (by omega) (by omega) (Rd.of_own HO.out) HE.out.2.1.rd).mono ?_
  rintro e w3 ⟨rfl, hb3⟩
  have hdd : decide (q = q) = true := by simp
  rw [hdd]
  have HZ := Lib.hid ((both_mk HR2.out HF2.out HB2.out HE.out.1 HE.out.2.2 (by simp)).on hb3)
  clear hdd hb3
  go_wp2
  go_ret
  exact ⟨rfl, _, _, HZ.out⟩
end Go.Proofs.Ytpfhmkfeneejeaa
