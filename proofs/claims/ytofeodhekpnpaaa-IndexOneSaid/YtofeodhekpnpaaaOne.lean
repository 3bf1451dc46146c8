/- The walk of IndexOne (under way: the first loop). -/
import Derived.Test.YtofeodhekpnpaaaDoes3
import Derived.Test.YtofeodhekpnpaaaOneLaw
namespace Go.Proofs.Ytofeodhekpnpaaa
open Go.RowKit Go.LawEnd

def boolsOf (l : List Bool) : List Value := l.map Value.bool
structure O2 (w wr : World) (x g b n S : Nat) (l : List (Int × Bool)) (f : Int → Option Int) (k : Nat) : Prop where
  idx : Idx wr x g b n l f 6
  seen : Blk wr S 33 (boolsOf (seenOf l k)).toArray
  below : Below w.heap.size w wr

set_option maxRecDepth 100000 in
set_option maxHeartbeats 3200000 in
theorem one_main (A : Option Addr) (m cp : Nat) (w : World) (hm : m ≤ 80)
    (hops : Hid (∀ k, k < m → ∃ b off a i s t, A = some ⟨b, off, none⟩ ∧ b < w.heap.size ∧ w.cell? ⟨b, off + k * 4, none⟩ = some (.int .i64 a) ∧ w.cell? ⟨b, off + k * 4 + 1, none⟩ = some (.int .i64 i) ∧ w.cell? ⟨b, off + k * 4 + 2, none⟩ = some (.int .i64 s) ∧ w.cell? ⟨b, off + k * 4 + 3, none⟩ = some (.bool t))) :
    Calls Try.prog 3 #[.slice A m cp] w (Yes w) := by
  go_enter Try.func3, Try.ntmps3
  go_wp2_with fail
  refine (new_yes 12 6 w (by omega) (by omega) (by omega) (by omega)).mono ?_
  rintro e w1 ⟨x, g, b, rfl, hx, hg, hb, hi, hbl⟩
  have HS1 : Hid (St w1 x g b 0 6 12) := ⟨_, _, hi, Ok.start 6 12, by simp⟩
  have HB1 := Lib.hid hbl
  clear hi hbl
  go_wp2_with fail
  go_loopw [5] (fun i wr => ∃ k : Nat, k ≤ m ∧ i = .int .i64 k ∧ St wr x g b k 6 12 ∧ Below w.heap.size w wr) (fun i _ => m - (intOf i).toNat)
  case atStart => exact ⟨0, by omega, rfl, HS1.out, HB1.out⟩
  case round =>
    clear HS1 HB1
    obtain ⟨k, hk, rfl, hst, hbw⟩ := hrel
    have HS := Lib.hid hst
    have HB := Lib.hid hbw
    clear hst hbw
    by_cases hkm : k < m
    · obtain ⟨bo, off, a, i, s, t, rfl, hbl, ha, hi, hs, ht⟩ := hops.out k hkm
      have KEEP : Hid (∀ W : World, Below w.heap.size w W → Below w.heap.size w W ∧ W.cell? ⟨bo, off + k * 4, none⟩ = some (.int .i64 a) ∧ W.cell? ⟨bo, off + k * 4 + 1, none⟩ = some (.int .i64 i) ∧ W.cell? ⟨bo, off + k * 4 + 2, none⟩ = some (.int .i64 s) ∧ W.cell? ⟨bo, off + k * 4 + 3, none⟩ = some (.bool t)) := fun W hW =>
        ⟨hW, (hW.cell (p := ⟨bo, off + k * 4, none⟩) hbl).trans ha, (hW.cell (p := ⟨bo, off + k * 4 + 1, none⟩) hbl).trans hi, (hW.cell (p := ⟨bo, off + k * 4 + 2, none⟩) hbl).trans hs, (hW.cell (p := ⟨bo, off + k * 4 + 3, none⟩) hbl).trans ht⟩
      have HBD : Hid (Below w.heap.size w wr.drew) := Below.drew HB.out
      have HSD : Hid (∃ l f, Idx wr.drew x g b k l f 6 ∧ Ok 6 l f ∧ l.length = 12) := by
        obtain ⟨l, f, h1, h2, h3⟩ := HS.out
        exact ⟨l, f, h1.drew, h2, h3⟩
      obtain ⟨l, f, h1, h2, h3⟩ := HSD.out
      have HID := Lib.hid h1
      have HOK := Lib.hid h2
      have HLL := Lib.hid h3
      clear ha hi hs ht HS HSD h1 h2 h3
      go_wp2_with fail
      go_region_held3 (fun W => Below w.heap.size w W ∧ W.cell? ⟨bo, off + k * 4, none⟩ = some (.int .i64 a) ∧ W.cell? ⟨bo, off + k * 4 + 1, none⟩ = some (.int .i64 i) ∧ W.cell? ⟨bo, off + k * 4 + 2, none⟩ = some (.int .i64 s) ∧ W.cell? ⟨bo, off + k * 4 + 3, none⟩ = some (.bool t))
        (first | exact KEEP.out _ HB4.out | exact KEEP.out _ HB3.out | exact KEEP.out _ HBD.out | assumption | fail)
        (first
          | (go_at_call 12; refine (ref_new 12 6 _ (by decide)).mono ?_; rintro e w3 ⟨r, rfl, hrn⟩; have HRN := Lib.hid hrn; have HB3 := Lib.hid (keep_call HBD.out hrn.below); clear hrn)
          | (go_at_call 11; obtain ⟨vS, vD, hri⟩ := HRN.out.ri; refine (does_any (slots := 6) a i s t (Lib.hid (HID.out.below HRN.out.below (Nat.le_refl _))) HOK.out (by have := HLL.out; omega) (by decide) (by unfold maxLen; omega) (Lib.hid hri) (by decide) HID.out.head.lt HID.out.row.lt HID.out.map.lt HRN.out.below.size).mono ?_; rintro e w4 ⟨v, rfl, hst4, hch4⟩; have HS4 : Hid (St w4 x g b (k + 1) 6 12) := (HLL.out ▸ hst4); have HB4 : Hid (Below w.heap.size w w4) := Ch.after HB3.out hch4 HB3.out.size (fun j e => by have := HBD.out.size; rcases e with rfl | rfl | e <;> first | assumption | omega); clear hst4 hch4 hri)
          | fail)
      all_goals go_wp2
      all_goals go_roundw
      all_goals first
        | exact ⟨k + 1, by omega, by go_num, HS4.out, HB4.out⟩
        | (simp [intOf]; omega)
    · obtain ⟨l, f, h1, h2, h3⟩ := HS.out
      have HI := Lib.hid h1
      have HOK := Lib.hid h2
      have HLL := Lib.hid h3
      have HO : Hid (O2 w (wr.alloc (.cells #[.bool false, .bool false, .bool false, .bool false, .bool false, .bool false] 33)) x g b k wr.heap.size l f 0) := by
        have hA := (Below.refl wr.heap.size wr).alloc (Nat.le_refl _) (.cells #[.bool false, .bool false, .bool false, .bool false, .bool false, .bool false] 33)
        exact ⟨h1.below hA (Nat.le_refl _), Blk.new _ _ _, keep_call HB.out hA⟩
      have hSw0 : w.heap.size ≤ wr.heap.size := HB.out.size
      clear HS h1 h2 h3
      go_wp2_with fail
      obtain ⟨S, hS⟩ : ∃ y, y = wr.heap.size := ⟨_, rfl⟩
      rw [← hS] at HO hSw0 ⊢
      have hSw : w.heap.size ≤ S := hSw0
      clear hSw0
      go_loopw [7, 8, 9] (fun nn dd i wr => ∃ k2 : Nat, k2 ≤ 12 ∧ i = .int .i64 k2 ∧ nn = .int .i64 (((l.take k2).filter some_).length : Int) ∧ dd = .int .i64 (((l.take k2).filter dirt_).length : Int) ∧ O2 w wr x g b k S l f k2) (fun _ _ i _ => 12 - (intOf i).toNat)
      case atStart => exact ⟨0, by omega, rfl, by simp, by simp, hS ▸ HO.out⟩
      case round =>
        clear HO hS
        obtain ⟨k2, hk2, rfl, rfl, rfl, HR⟩ := hrel
        have HJ := Lib.hid HR
        clear HR
        by_cases hk12 : k2 < 12
        · have hkl : k2 < l.length := by have := HLL.out; omega
          obtain ⟨s, d, hp⟩ : ∃ s d, l[k2] = (s, d) := ⟨_, _, rfl⟩
          have hfit := HOK.out.fit l[k2] (List.getElem_mem hkl)
          have HT : Hid (l.take (k2 + 1) = l.take k2 ++ [(s, d)]) := by show _ = _; rw [List.take_succ_eq_append_getElem hkl, hp]
          rw [hp] at hfit
          rcases hfit with e0 | ⟨e0, e1⟩
          · have hsn := seen_none hkl (by rw [hp, e0])
            have HSN := Lib.hid hsn
            have HF : Hid (((l.take (k2 + 1)).filter some_).length = ((l.take k2).filter some_).length ∧ ((l.take (k2 + 1)).filter dirt_).length = ((l.take k2).filter dirt_).length) := by
              rw [HT.out, e0, List.filter_append, List.filter_append]
              exact ⟨by simp [some_], by simp [dirt_]⟩
            obtain ⟨c1, hc1⟩ : ∃ c, ((l.take k2).filter some_).length = c := ⟨_, rfl⟩
            obtain ⟨c2, hc2⟩ : ∃ c, ((l.take k2).filter dirt_).length = c := ⟨_, rfl⟩
            rw [hc1, hc2] at HF ⊢
            clear hsn hc1 hc2 HT
            go_wp2_with fail
            refine (get_none k2 (Lib.hid HJ.out.idx) hkl (by rw [hp, e0])).mono ?_
            rintro e w5 ⟨rfl, hb5⟩
            have HZ : Hid (O2 w (w5.alloc (.cells #[.int .i64 0, .bool false] 35)) x g b k S l f (k2 + 1)) := by
              have hA := hb5.alloc hb5.size (.cells #[.int .i64 0, .bool false] 35)
              exact ⟨HJ.out.idx.below hA (Nat.le_refl _), by rw [HSN.out]; exact HJ.out.seen.below hA HJ.out.seen.lt, keep_call HJ.out.below hA⟩
            clear hb5 HJ hp e0
            go_wp2
            go_roundw
            case rel => exact ⟨k2 + 1, by omega, by go_num, by rw [HF.out.1], by rw [HF.out.2], HZ.out⟩
            case measure => simp [intOf]; omega
          · obtain ⟨sn, rfl⟩ : ∃ sn : Nat, s = sn := ⟨s.toNat, by simp at e0; omega⟩
            have hsn : sn < 6 := by simp at e1; omega
            have hfr := seen_fresh HOK.out hkl (Int.natCast_nonneg sn) hp
            have HSN := Lib.hid (seen_some hkl hsn hp)
            have hmap : f (sn : Int) = some (k2 : Int) := (HOK.out.map _ _).2 ⟨by omega, k2, rfl, d, by rw [List.getElem?_eq_getElem hkl, hp]⟩
            have HM := Lib.hid hmap
            have hs1 : (((sn : Nat) : Int) == -1) = false := by rw [beq_eq_false_iff_ne]; omega
            have HF : Hid (((l.take (k2 + 1)).filter some_).length = ((l.take k2).filter some_).length + 1 ∧ ((l.take (k2 + 1)).filter dirt_).length = ((l.take k2).filter dirt_).length + (if d then 1 else 0)) := by
              rw [HT.out, List.filter_append, List.filter_append]
              exact ⟨by simp [some_, hs1], by cases d <;> simp [dirt_, List.filter_cons]⟩
            obtain ⟨c1, hc1⟩ : ∃ c, ((l.take k2).filter some_).length = c := ⟨_, rfl⟩
            obtain ⟨c2, hc2⟩ : ∃ c, ((l.take k2).filter dirt_).length = c := ⟨_, rfl⟩
            have hb1 : c1 ≤ 12 := by have h1 := List.length_filter_le some_ (l.take k2); simp at h1; omega
            have hb2 : c2 ≤ 12 := by have h1 := List.length_filter_le dirt_ (l.take k2); simp at h1; omega
            rw [hc1, hc2] at HF ⊢
            have HSV : Hid ((boolsOf (seenOf l k2))[sn]? = some (.bool false)) := by
              show _ = _
              simp [boolsOf, seen_get l k2 sn hsn, hfr]
            clear hc1 hc2 HT hfr hmap e0 e1
            go_wp2_with fail
            refine (get_some k2 sn d hs1 (Lib.hid HJ.out.idx) hkl hp).mono ?_
            rintro e w5 ⟨rfl, hb5⟩
            go_upto_region 16 with (fail)
            obtain ⟨P1, hP1⟩ : ∃ y, y = w5.heap.size := ⟨_, rfl⟩
            obtain ⟨V, hV⟩ : ∃ y, y = w5.alloc (.cells #[.int .i64 (sn : Int), .bool d] 35) := ⟨_, rfl⟩
            rw [← hV, ← hP1]
            have hA := hb5.alloc hb5.size (.cells #[.int .i64 (sn : Int), .bool d] 35)
            rw [← hV] at hA
            have hSP : S ≠ P1 := by have h1 := HJ.out.seen.lt; have h2 := hb5.size; omega
            have HBX : Hid (Blk V P1 35 #[.int .i64 (sn : Int), .bool d]) := by rw [hV, hP1]; exact Blk.new _ _ _
            have HSE : Hid (Blk V S 33 (boolsOf (seenOf l k2)).toArray) := HJ.out.seen.below hA HJ.out.seen.lt
            have HIX : Hid (Idx V x g b k l f 6) := HJ.out.idx.below hA (Nat.le_refl _)
            have HBW : Hid (Below w.heap.size w V) := keep_call HJ.out.below hA
            clear hA hV hP1 hb5
            have HZ : Hid (O2 w (V.setCell ⟨S, sn, none⟩ (.bool true)) x g b k S l f (k2 + 1)) := by
              have hc : Ch (fun j => j = S) V (V.setCell ⟨S, sn, none⟩ (.bool true)) := (Ch.refl (fun j => j = S) V).setCell (p := ⟨S, sn, none⟩) (.inl rfl) _
              refine ⟨HIX.out.ch hc (Blk.ne_ HIX.out.head HSE.out (by decide)) (Blk.ne_ HIX.out.row HSE.out (by decide)) (fun e => HIX.out.map.ne_blk HSE.out e.symm), ?_, HBW.out.setCell (p := ⟨S, sn, none⟩) hSw _⟩
              have h1 := HSE.out.set_ sn (.bool true)
              rw [HSN.out]
              simpa [boolsOf, List.map_set] using h1
            have q0 : V.cell? ⟨P1, 0, none⟩ = some (.int .i64 (sn : Int)) := by simpa using HBX.out.cell 0
            have s0 : V.cell? ⟨S, sn, none⟩ = some (.bool false) := by have h1 := HSE.out.cell sn; rw [h1]; simpa using HSV.out
            have sf : V.frozen? ⟨S, sn, none⟩ = false := HSE.out.frozen sn
            have q0' : (V.setCell ⟨S, sn, none⟩ (.bool true)).cell? ⟨P1, 0, none⟩ = some (.int .i64 (sn : Int)) := by
              have h1 := (HBX.out.far (p := ⟨S, sn, none⟩) (Ne.symm hSP) (.bool true)).cell 0; simpa using h1
            have q1' : (V.setCell ⟨S, sn, none⟩ (.bool true)).cell? ⟨P1, 1, none⟩ = some (.bool d) := by
              have h1 := (HBX.out.far (p := ⟨S, sn, none⟩) (Ne.symm hSP) (.bool true)).cell 1; simpa using h1
            have b0 : (0 : Int) ≤ (sn : Int) := by omega
            have b1 : (sn : Int) ≤ 5 := by omega
            have HP := Lib.hid hp
            have HS1' := Lib.hid hs1
            clear hp hs1 HJ
            cases d
            all_goals
              go_wp2_with fail
              refine (at_some (sn : Int) (k2 : Int) (Lib.hid HZ.out.idx) b0 (by omega) (by decide) HM.out).mono ?_
              rintro e w6 ⟨rfl, rfl⟩
              go_wp2
              go_roundw
              case rel => exact ⟨k2 + 1, by omega, by go_num, by rw [HF.out.1]; go_num, by rw [HF.out.2]; go_num, HZ.out⟩
              case measure => simp [intOf]; omega
        · have h12 : k2 = 12 := by omega
          subst h12
          have hT : l.take 12 = l := List.take_of_length_le (by have := HLL.out; omega)
          rw [hT, show ((12 : Nat) : Int) = 12 from rfl]
          obtain ⟨c1, hc1⟩ : ∃ c, (l.filter some_).length = c := ⟨_, rfl⟩
          obtain ⟨c2, hc2⟩ : ∃ c, (l.filter dirt_).length = c := ⟨_, rfl⟩
          rw [hc1, hc2]
          have HC1 := Lib.hid hc1
          have HC2 := Lib.hid hc2
          clear hc1 hc2 hk12 hT
          go_wp2_with fail
          go_loopw [14] (fun i wr => ∃ k3 : Nat, k3 ≤ 6 ∧ i = .int .i64 k3 ∧ O2 w wr x g b k S l f 12) (fun i _ => 6 - (intOf i).toNat)
          case atStart => exact ⟨0, by omega, rfl, HJ.out⟩
          case round =>
            clear HJ
            obtain ⟨k3, hk3, rfl, hr3⟩ := hrel
            have HJ := Lib.hid hr3
            clear hr3
            by_cases hk6 : k3 < 6
            · have hm := seen_map HOK.out k3
              have hsg := seen_get l 12 k3 hk6
              rw [List.take_of_length_le (by have := HLL.out; omega), hm] at hsg
              have hcl : wr.cell? ⟨S, k3, none⟩ = some (.bool (f (k3 : Int)).isSome) := by have h1 := HJ.out.seen.cell k3; rw [h1]; simp [boolsOf, hsg]
              have b0 : (0 : Int) ≤ (k3 : Int) := by omega
              have b1 : (k3 : Int) < 6 := by omega
              clear hm hsg
              cases hf : f (k3 : Int) with
              | none =>
                rw [hf] at hcl
                simp only [Option.isSome_none] at hcl
                have HF := Lib.hid hf
                clear hf
                go_wp2_with fail
                refine (at_none (k3 : Int) (Lib.hid HJ.out.idx) b0 b1 (by decide) HF.out).mono ?_
                rintro e w6 ⟨rfl, rfl⟩
                go_wp2
                go_roundw
                case rel => exact ⟨k3 + 1, by omega, by go_num, HJ.out⟩
                case measure => simp [intOf]; omega
              | some v =>
                rw [hf] at hcl
                simp only [Option.isSome_some] at hcl
                have HF := Lib.hid hf
                clear hf
                go_wp2_with fail
                refine (at_some (k3 : Int) v (Lib.hid HJ.out.idx) b0 b1 (by decide) HF.out).mono ?_
                rintro e w6 ⟨rfl, rfl⟩
                go_wp2
                go_roundw
                case rel => exact ⟨k3 + 1, by omega, by go_num, HJ.out⟩
                case measure => simp [intOf]; omega
            · clear hk3
              go_wp2_with fail
              refine (len_any (Lib.hid HJ.out.idx) (by have := HLL.out; omega) HOK.out.fit).mono ?_
              rintro e w6 ⟨rfl, hb6⟩
              rw [HC1.out]
              have HI6 := Lib.hid (HJ.out.idx.below hb6 (Nat.le_refl _))
              have HB6 := Lib.hid (keep_call HJ.out.below hb6)
              clear hb6
              go_wp2_with fail
              refine (dirty_any HI6 (by have := HLL.out; omega)).mono ?_
              rintro e w7 ⟨rfl, hb7⟩
              rw [HC2.out]
              have HB7 := Lib.hid (keep_call HB6.out hb7)
              clear hb7
              go_wp2_with fail
              refine (awake_any _).mono ?_
              rintro e w8 ⟨rfl, hb8⟩
              have HB8 := Lib.hid (keep_call HB7.out hb8)
              clear hb8
              go_wp2
              go_ret
              exact ⟨rfl, HB8.out⟩
end Go.Proofs.Ytofeodhekpnpaaa
