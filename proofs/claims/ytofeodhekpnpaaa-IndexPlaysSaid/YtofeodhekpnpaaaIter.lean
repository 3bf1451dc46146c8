/- The iterator of All: which blocks come. -/
import Derived.Test.YtofeodhekpnpaaaLoop0
import Derived.Test.YtofeodhekpnpaaaQb
import Derived.Test.YtofeodhekpnpaaaSepR
import Derived.IntWalk
import Derived.Test.YtofeodhekpnpaaaFull
namespace Go.Proofs.Ytofeodhekpnpaaa
open Go.RowKit Go.LawEnd Go.Shelf



def yes (l : Pls) (fr N : Int) (i : Nat) : Bool := some_ (pl l i) && decide (0 ≤ fr) && decide (fr ≤ i) && decide ((i : Int) - fr < N)
def itemsTo (l : Pls) (fr N : Int) (k : Nat) : List (Nat × Int × Bool) := ((List.range k).filter (yes l fr N)).map fun i => (i, pl l i)
theorem itemsTo_yes {l : Pls} {fr N : Int} {k : Nat} (h : yes l fr N k = true) : itemsTo l fr N (k + 1) = itemsTo l fr N k ++ [(k, pl l k)] := by
  simp [itemsTo, List.range_succ, List.filter_append, h]
theorem itemsTo_no {l : Pls} {fr N : Int} {k : Nat} (h : yes l fr N k = false) : itemsTo l fr N (k + 1) = itemsTo l fr N k := by
  simp [itemsTo, List.range_succ, List.filter_append, h]
theorem itemsTo_length (l : Pls) (fr N : Int) (k : Nat) : (itemsTo l fr N k).length ≤ k := by
  unfold itemsTo
  rw [List.length_map]
  exact Nat.le_trans (List.length_filter_le _ _) (by simp)

/-- what the iterator reads: its two boxes, and the row of places -/
structure IT (W : World) (B1 B2 : Nat) (g : Rowd) (l : Pls) (fr N : Int) : Prop where
  b1 : Blk W B1 51 #[.slice (some ⟨g, 0, none⟩) l.length g.cap]
  b2 : Blk W B2 46 #[.int .i64 fr, .int .i64 N]
  row : Blk W g 35 (pcs l ++ g.tl).toArray
def ITb (B1 B2 : Nat) (g : Rowd) (b : Nat) : Prop := b = B1 ∨ b = B2 ∨ b = g.g
section
variable {W W' : World} {B1 B2 : Nat} {g : Rowd} {l : Pls} {fr N : Int}
theorem IT.keep (h : IT W B1 B2 g l fr N) (hk : KpT (ITb B1 B2 g) W W') : IT W' B1 B2 g l fr N :=
  ⟨(hk B1 (.inl rfl)).trans h.b1, (hk B2 (.inr (.inl rfl))).trans h.b2, (hk g (.inr (.inr rfl))).trans h.row⟩
theorem IT.below {B : Nat} (h : IT W B1 B2 g l fr N) (hb : Below B W W') (hB : W.heap.size ≤ B) : IT W' B1 B2 g l fr N :=
  ⟨h.b1.below hb (by have := h.b1.lt; omega), h.b2.below hb (by have := h.b2.lt; omega), h.row.below hb (by have := h.row.lt; omega)⟩
theorem IT.cells (h : IT W B1 B2 g l fr N) {k : Nat} (hk : k < l.length) {s : Int} {d : Bool} (he : l[k] = (s, d)) :
    W.cell? ⟨B1, 0, none⟩ = some (.slice (some ⟨g, 0, none⟩) l.length g.cap) ∧ W.cell? ⟨B2, 0, none⟩ = some (.int .i64 fr) ∧ W.cell? ⟨B2, 1, none⟩ = some (.int .i64 N) ∧ W.cell? ⟨g, k * 2, none⟩ = some (.int .i64 s) ∧ W.cell? ⟨g, k * 2 + 1, none⟩ = some (.bool d) := by
  have hp := pcs_get_tl l g.tl k hk
  rw [he] at hp
  exact ⟨by simpa using h.b1.cell 0, by simpa using h.b2.cell 0, by simpa using h.b2.cell 1, by rw [h.row.cell, List.getElem?_toArray]; exact hp.1, by rw [h.row.cell, List.getElem?_toArray]; exact hp.2⟩
end
theorem abides_below {J : List (Nat × Int × Bool) → World → Prop} {B : Nat} (h : AbidesFrom B J) {s : List (Nat × Int × Bool)} {W W' : World} (hJ : J s W) (hb : Below W.heap.size W W') : J s W' :=
  h s W W' none hJ ⟨hb.os, hb.tape, hb.output, hb.size, fun i hi _ => hb.block i hi⟩ (fun r e => by cases e)

set_option maxRecDepth 100000 in
set_option maxHeartbeats 3200000 in
theorem all1_in (n : Nat) (hn : 1 ≤ n) (l0 B1 B2 : Nat) (g : Rowd) (l : Pls) (fr N : Int) (hl : l.length ≤ 4096) {slots : Nat} (hF : Fit slots l) (J Jx : List (Nat × Int × Bool) → World → Prop) (W : World) (hJa : AbidesFrom W.heap.size J)
    (hY : ∀ pre x W1, J pre W1 → pre.length < l.length → YieldAt Fence.wide (n - 1) Try.prog l0 #[.int .i64 (x.1 : Int), .agg #[.int .i64 x.2.1, .bool x.2.2]] W1 fun e W' =>
      (e = .returned (.bool true) ∧ J (pre ++ [x]) W' ∧ KpT (ITb B1 B2 g) W1 W') ∨ (e = .returned (.bool false) ∧ Jx (pre ++ [x]) W'))
    (hI : IT W B1 B2 g l fr N) (h0 : J [] W) :
    CallsIn Fence.wide n Try.prog 35 #[.func (.yield l0) #[] #[], .pointer (some ⟨B1, 0, none⟩), .pointer (some ⟨B2, 0, none⟩)] W fun e W' => (∃ v, e = .returned v) ∧
      ((∃ ys, ys = itemsTo l fr N l.length ∧ J ys W') ∨ (∃ pre, (∃ k, k ≤ l.length ∧ pre = itemsTo l fr N k) ∧ Jx pre W')) := by
  have HY := Lib.hid hY
  have HF := Lib.hid hF
  have HA := Lib.hid hJa
  have HIT := Lib.hid hI
  have H0 := Lib.hid h0
  have c0 : W.cell? ⟨B1, 0, none⟩ = some (.slice (some ⟨g, 0, none⟩) l.length g.cap) := by simpa using hI.b1.cell 0
  clear hY hJa hI h0 hF
  refine callsIn_wide.2 ?_
  go_enter Try.func35, Try.ntmps35
  go_wp2_with fail
  go_step3
  go_wp2_with fail
  go_step3
  go_wp2_with fail
  clear c0
  go_loopw [8] (fun i wr => ∃ k : Nat, k ≤ l.length ∧ i = .int .i64 k ∧ J (itemsTo l fr N k) wr ∧ IT wr B1 B2 g l fr N) (fun i _ => l.length - (intOf i).toNat)
  case atStart => exact ⟨0, by omega, rfl, H0.out, HIT.out⟩
  case round =>
    clear H0 HIT
    obtain ⟨k, hk, rfl, hj, hi⟩ := hrel
    have HJ := Lib.hid hj
    have HI := Lib.hid hi
    clear hj hi
    by_cases hkl : k < l.length
    · obtain ⟨s, d, hp⟩ : ∃ s d, l[k] = (s, d) := ⟨_, _, rfl⟩
      obtain ⟨b0, b1, b2, g0, g1⟩ := HI.out.cells hkl hp
      have lt1 := HI.out.b1.lt
      have lt2 := HI.out.b2.lt
      have ltg := HI.out.row.lt
      go_wp2_with fail
      obtain ⟨P5, hP5⟩ : ∃ y, y = wr.heap.size := ⟨_, rfl⟩
      obtain ⟨V, hV⟩ : ∃ y, y = wr.alloc (.cells #[.int .i64 s, .bool d] 35) := ⟨_, rfl⟩
      rw [← hV, ← hP5]
      have hA : Below wr.heap.size wr V := by rw [hV]; exact (Below.refl wr.heap.size wr).alloc (Nat.le_refl _) _
      have HBX : Hid (Blk V P5 35 #[.int .i64 s, .bool d]) := by rw [hV, hP5]; exact Blk.new _ _ _
      have HI2 := Lib.hid (HI.out.below hA (Nat.le_refl _))
      have HAB := Lib.hid hA
      have HK : Hid (∀ W' : World, Below V.heap.size V W' → W'.cell? ⟨P5, 0, none⟩ = some (.int .i64 s) ∧ W'.cell? ⟨P5, 1, none⟩ = some (.bool d) ∧ W'.cell? ⟨B2, 0, none⟩ = some (.int .i64 fr) ∧ W'.cell? ⟨B2, 1, none⟩ = some (.int .i64 N)) := fun W' hW' => by
        have h1 := HBX.out.below hW' HBX.out.lt
        have h2 := HI2.out.b2.below hW' HI2.out.b2.lt
        exact ⟨by simpa using h1.cell 0, by simpa using h1.cell 1, by simpa using h2.cell 0, by simpa using h2.cell 1⟩
      have HKW : Hid (∀ W' : World, Below wr.heap.size wr W' → Below V.heap.size V W' → W'.cell? ⟨P5, 0, none⟩ = some (.int .i64 s) ∧ W'.cell? ⟨P5, 1, none⟩ = some (.bool d)) := fun W' _ hW' => by
        have h1 := HBX.out.below hW' HBX.out.lt
        exact ⟨by simpa using h1.cell 0, by simpa using h1.cell 1⟩
      have hpk := pl_at hkl
      rw [hp] at hpk
      have HP := Lib.hid hpk
      have HE := Lib.hid hp
      have HI0 := Lib.hid HI.out
      clear hA hV hP5 b0 b1 b2 g0 g1 lt1 lt2 ltg hp hpk HI
      have k0 : ∀ q : ExtB V.heap.size V, q.w.cell? ⟨P5, 0, none⟩ = some (.int .i64 s) := fun q => (HK.out q.w q.below).1
      have k1 : ∀ q : ExtB V.heap.size V, q.w.cell? ⟨P5, 1, none⟩ = some (.bool d) := fun q => (HK.out q.w q.below).2.1
      have k2 : ∀ q : ExtB V.heap.size V, q.w.cell? ⟨B2, 0, none⟩ = some (.int .i64 fr) := fun q => (HK.out q.w q.below).2.2.1
      have k3 : ∀ q : ExtB V.heap.size V, q.w.cell? ⟨B2, 1, none⟩ = some (.int .i64 N) := fun q => (HK.out q.w q.below).2.2.2
      by_cases hno : (s, d) = (-1, false)
      · injection hno with e1 e2
        subst e1 e2
        have HNO : Hid (yes l fr N k = false) := by show _ = _; unfold yes; rw [HP.out]; rfl
        refine wp_region_quiet_below (by kernel_rfl) (by kernel_rfl) ?_
        repeat (go_big_quiet_step ((go_at_call 24; exact calls_ext (Nat.le_refl _) _ (none_any _))))
        refine wpQuiet_nil ?_
        intro w2 hw2
        obtain ⟨q, hq⟩ := hw2
        have hb2 := q.below
        rw [← hq] at hb2
        clear hq q
        have HB2 := Lib.hid (HAB.out.trans (hb2.mono HAB.out.size))
        have HV2 := Lib.hid hb2
        clear hb2 k0 k1 k2 k3
        go_wp2
        go_roundw
        case rel => exact ⟨k + 1, by omega, by go_num, by rw [itemsTo_no HNO.out]; exact abides_below HA.out HJ.out HB2.out, HI0.out.below HB2.out (Nat.le_refl _)⟩
        case measure => simp [intOf]; omega
      · have hs0 : 0 ≤ s := by
          rcases HF.out l[k] (List.getElem_mem hkl) with e | ⟨a, _⟩
          · rw [HE.out] at e; exact absurd e hno
          · rw [HE.out] at a; exact a
        have hs : (s == -1) = false := by rw [beq_eq_false_iff_ne]; omega
        have HSM : Hid (some_ (s, d) = true) := by show _ = _; simp [some_, hs]
        clear hno
        by_cases hf0 : fr < 0
        · have HNO : Hid (yes l fr N k = false) := by
            show _ = _; unfold yes; rw [show decide (0 ≤ fr) = false from decide_eq_false (by omega)]; simp
          refine wp_region_quiet_below (by kernel_rfl) (by kernel_rfl) ?_
          repeat (go_big_quiet_step ((go_at_call 24; exact calls_ext (Nat.le_refl _) _ (none_any _))))
          refine wpQuiet_nil ?_
          intro w2 hw2
          obtain ⟨q, hq⟩ := hw2
          have hb2 := q.below
          rw [← hq] at hb2
          clear hq q
          have HB2 := Lib.hid (HAB.out.trans (hb2.mono HAB.out.size))
          have HV2 := Lib.hid hb2
          clear hb2 k0 k1 k2 k3
          go_wp2
          go_roundw
          case rel => exact ⟨k + 1, by omega, by go_num, by rw [itemsTo_no HNO.out]; exact abides_below HA.out HJ.out HB2.out, HI0.out.below HB2.out (Nat.le_refl _)⟩
          case measure => simp [intOf]; omega
        · have hf1 : 0 ≤ fr := by omega
          have e1 : decide (fr < 0) = false := decide_eq_false hf0
          clear hf0
          by_cases hf2 : (k : Int) < fr
          · have HNO : Hid (yes l fr N k = false) := by
              show _ = _; unfold yes; rw [show decide (fr ≤ (k : Int)) = false from decide_eq_false (by omega)]; simp
            have e2 : decide ((k : Int) < fr) = true := decide_eq_true hf2
            refine wp_region_quiet_below (by kernel_rfl) (by kernel_rfl) ?_
            repeat (go_big_quiet_step ((go_at_call 24; exact calls_ext (Nat.le_refl _) _ (none_any _))))
            refine wpQuiet_nil ?_
            intro w2 hw2
            obtain ⟨q, hq⟩ := hw2
            have hb2 := q.below
            rw [← hq] at hb2
            clear hq q
            have HB2 := Lib.hid (HAB.out.trans (hb2.mono HAB.out.size))
            have HV2 := Lib.hid hb2
            clear hb2 k0 k1 k2 k3
            go_wp2
            go_roundw
            case rel => exact ⟨k + 1, by omega, by go_num, by rw [itemsTo_no HNO.out]; exact abides_below HA.out HJ.out HB2.out, HI0.out.below HB2.out (Nat.le_refl _)⟩
            case measure => simp [intOf]; omega
          · have hf3 : fr ≤ (k : Int) := by omega
            have e2 : decide ((k : Int) < fr) = false := decide_eq_false hf2
            have e3 : IntKind.i64.wrap ((k : Int) - fr) = (k : Int) - fr := IntWalk.i64_in _ (by omega)
            clear hf2
            by_cases hf4 : N ≤ (k : Int) - fr
            · have HNO : Hid (yes l fr N k = false) := by
                show _ = _; unfold yes; rw [show decide ((k : Int) - fr < N) = false from decide_eq_false (by omega)]; simp
              have e4 : decide (N ≤ (k : Int) - fr) = true := decide_eq_true hf4
              refine wp_region_quiet_below (by kernel_rfl) (by kernel_rfl) ?_
              repeat (go_big_quiet_step ((go_at_call 24; exact calls_ext (Nat.le_refl _) _ (none_any _))))
              refine wpQuiet_nil ?_
              intro w2 hw2
              obtain ⟨q, hq⟩ := hw2
              have hb2 := q.below
              rw [← hq] at hb2
              clear hq q
              have HB2 := Lib.hid (HAB.out.trans (hb2.mono HAB.out.size))
              have HV2 := Lib.hid hb2
              clear hb2 k0 k1 k2 k3
              go_wp2
              go_roundw
              case rel => exact ⟨k + 1, by omega, by go_num, by rw [itemsTo_no HNO.out]; exact abides_below HA.out HJ.out HB2.out, HI0.out.below HB2.out (Nat.le_refl _)⟩
              case measure => simp [intOf]; omega
            · have hf5 : (k : Int) - fr < N := by omega
              have e4 : decide (N ≤ (k : Int) - fr) = false := decide_eq_false hf4
              clear hf4
              have HYES : Hid (yes l fr N k = true) := by
                show _ = _; unfold yes; rw [HP.out, HSM.out, decide_eq_true hf1, decide_eq_true hf3, decide_eq_true hf5]; rfl
              refine wp_region_quiet_below (by kernel_rfl) (by kernel_rfl) ?_
              repeat (go_big_quiet_step ((go_at_call 24; exact calls_ext (Nat.le_refl _) _ (none_any _))))
              refine wpQuiet_nil ?_
              intro w2 hw2
              obtain ⟨q, hq⟩ := hw2
              have hb2 := q.below
              rw [← hq] at hb2
              clear hq q
              have HB2 := Lib.hid (HAB.out.trans (hb2.mono HAB.out.size))
              have HV2 := Lib.hid hb2
              clear hb2 k0 k1 k2 k3
              have HI2' := HI0.out.below HB2.out (Nat.le_refl _)
              obtain ⟨fn, tmps, assign, body, hy, hR⟩ := HY.out _ (k, (s, d)) w2 (abides_below HA.out HJ.out HB2.out) (Nat.lt_of_le_of_lt (itemsTo_length _ _ _ _) hkl)
              dsimp only at hy
              have kx0 : w2.cell? ⟨P5, 0, none⟩ = some (.int .i64 s) := (HKW.out w2 HB2.out HV2.out).1
              have kx1 : w2.cell? ⟨P5, 1, none⟩ = some (.bool d) := (HKW.out w2 HB2.out HV2.out).2
              have HIW := Lib.hid HI2'
              have HRR := Lib.hid hR
              clear HI2' hR
              go_upto_region 4 with (fail)
              refine (wpIn_wide (n := n)).1 ?_
              gi_wp2
              refine HRR.out.mono ?_
              rintro e W3 (⟨rfl, hJ3, hk3⟩ | ⟨rfl, hJx3⟩)
              · have HJ3 := Lib.hid hJ3
                have HI3 := Lib.hid (HIW.out.keep hk3)
                clear hJ3 hk3
                gi_wp2
                go_wp2
                go_roundw
                case rel => exact ⟨k + 1, by omega, by go_num, by rw [itemsTo_yes HYES.out, HP.out]; exact HJ3.out, HI3.out⟩
                case measure => simp [intOf]; omega
              · have HJ3 := Lib.hid hJx3
                clear hJx3
                gi_wp2
                go_wp2
                first | rw [Exit.noGoto_ret] | simp only [Exit.noGoto]
                refine bodyPost_ret (results_none rfl _ _ _) rfl ?_
                exact ⟨⟨_, rfl⟩, .inr ⟨_, ⟨k + 1, by omega, rfl⟩, by rw [itemsTo_yes HYES.out, HP.out]; exact HJ3.out⟩⟩
    · obtain rfl : k = l.length := by omega
      have HJ' := HJ
      go_wp2
      first | rw [Exit.noGoto_normal] | simp only [Exit.noGoto]
      go_end0
      exact ⟨⟨_, rfl⟩, .inl ⟨_, rfl, HJ'.out⟩⟩
end Go.Proofs.Ytofeodhekpnpaaa
