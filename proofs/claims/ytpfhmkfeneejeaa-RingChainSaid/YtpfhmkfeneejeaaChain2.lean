/- The walk of RingChain, where the rings are made. -/
import Derived.Test.YtpfhmkfeneejeaaChain
namespace Go.Proofs.Ytpfhmkfeneejeaa
open Go.RowKit Go.LawEnd Go.Conc

set_option maxRecDepth 100000 in
set_option maxHeartbeats 3200000 in
theorem chain_main (A : Option Addr) (m cp n1 n2 : Nat) (n : Int) (l : List Int) (w : World) (h1 : 1 ≤ n1) (h2 : n1 ≤ 1024) (h3 : 1 ≤ n2) (h4 : n2 ≤ 1024) (hm : m ≤ 200) (hn : ¬ n < 1) (hl : Hid (l.length = m)) (hrd : Hid (Rd w w.heap.size 1 (.slice A m cp) m (ints l))) :
    Calls Try.prog 6 #[.slice A m cp, .int .i64 n, .agg #[.int .i64 (n1 : Int), .int .i64 (n2 : Int)]] w (Yes w) := by
  obtain ⟨i0, hi, hz0, hz1, hz2⟩ := info_parts RInt.infoRow
  go_enter Try.func6, Try.ntmps6
  go_wp2_with fail
  obtain ⟨w0, hw0⟩ : ∃ x, x = w.alloc (.cells #[.int .i64 (n1 : Int), .int .i64 (n2 : Int)] 53) := ⟨_, rfl⟩
  have hb0 : Below w.heap.size w w0 := by rw [hw0]; exact (Below.refl _ w).alloc (Nat.le_refl _) _
  have hc0 : w0.cell? ⟨w.heap.size, 1, none⟩ = some (.int .i64 (n2 : Int)) := by rw [hw0, (Blk.new w 53 #[.int .i64 (n1 : Int), .int .i64 (n2 : Int)]).cell]; rfl
  have hs0 : w0.heap.size = w.heap.size + 1 := by rw [hw0]; simp
  rw [← hw0]
  clear hw0
  refine (RInt.new_yes n1 w0 h1 h2).mono ?_
  rintro e w1 ⟨rfl, hr, hb, hsz⟩
  rw [hs0] at hr hsz hb
  rw [hs0]
  have hc1 : w1.cell? ⟨w.heap.size, 1, none⟩ = some (.int .i64 (n2 : Int)) := by rw [hb.cell (p := ⟨w.heap.size, 1, none⟩) (by show w.heap.size < _; omega), hc0]
  have R1 := Lib.hid hr
  have B1 : Hid (Below w.heap.size w w1) := (show _ from hb0.trans (hb.mono (by omega)))
  have HS1 := Lib.hid hsz
  clear hr hb hc0 hsz hb0 hs0
  go_wp2_with fail
  refine (RInt.new_yes n2 w1 h3 h4).mono ?_
  rintro e w2 ⟨rfl, hr, hb, hsz⟩
  rw [HS1.out] at hr hsz hb
  rw [HS1.out]
  have R2 := Lib.hid hr
  have R1' := Lib.hid (R1.out.below hb (by omega) (by omega))
  have B2 : Hid (Below w.heap.size w w2) := B1.out.trans (hb.mono (by omega))
  obtain ⟨p, hp⟩ : ∃ p, p = w.heap.size + 1 + 1 := ⟨_, rfl⟩
  obtain ⟨c, hc⟩ : ∃ c, c = w.heap.size + 1 := ⟨_, rfl⟩
  obtain ⟨p', hp'⟩ : ∃ p, p = w.heap.size + 1 + 2 + 1 := ⟨_, rfl⟩
  obtain ⟨c', hc'⟩ : ∃ c, c = w.heap.size + 1 + 2 := ⟨_, rfl⟩
  rw [← hp, ← hc] at R1'
  rw [← hp', ← hc'] at R2
  rw [← hp, ← hp']
  have hcl : w.heap.size ≤ c := by omega
  have hcl' : w.heap.size ≤ c' := by omega
  have hcc : c ≠ c' := by omega
  clear hr hb hsz hp hc hp' hc' R1 B1 HS1 hc1
  have HC0 : Hid (Chn w w2 p c n1 p' c' n2 (.slice none 0 0) (.slice none 0 0) [] [] [] []) :=
    ⟨World.ownsRow_nil w2 w.heap.size 3 1, World.ownsRow_nil w2 w.heap.size 3 1, Ap.nil_ _, R1'.out, R2.out, B2.out⟩
  clear R1' R2 B2
  go_wp2_with fail
  go_loopw [11, 12, 13] (fun vp vg i wr => ∃ k : Nat, k ≤ m ∧ i = .int .i64 k ∧ ∃ P G q q', Chn w wr p c n1 p' c' n2 vp vg P G q q' ∧ G ++ q' ++ q = P ∧ P.length ≤ k ∧ q.length ≤ n1 ∧ q'.length ≤ n2) (fun _ _ i _ => m - (intOf i).toNat)
  case atStart => exact ⟨0, by omega, rfl, [], [], [], [], HC0.out, rfl, by simp, by simp, by simp⟩
  case round =>
    clear HC0
    obtain ⟨k, hk, rfl, P, G, q, q', HC, hE, hP, hq, hq'⟩ := hrel
    have HC1 := Lib.hid HC
    have HE := Lib.hid hE
    clear HC hE
    by_cases hkm : k < m
    · obtain ⟨b, off, rfl, hbl, hkl, hcell⟩ := hrd.out.at_ hkm
      obtain ⟨x, hx⟩ : ∃ x, l[k]'(by have := hl.out; omega) = x := ⟨_, rfl⟩
      have HX : Hid (∀ W : World, Below w.heap.size w W → W.cell? ⟨b, off + k, none⟩ = some (.int .i64 x)) := fun W hW => by
        rw [hW.cell (p := ⟨b, off + k, none⟩) hbl, hcell, ← hx]; simp [ints]
      have hcx := HX.out wr HC1.out.below
      clear hx hcell hkl
      by_cases hqn : q.length < n1
      · go_wp2_with fail
        refine (RInt.put_room x HC1.out.ra (by rw [ints_length]; omega)).mono ?_
        rintro e w3 ⟨rfl, hr3, hch3, hs3⟩
        have HC3 := Lib.hid (HC1.out.opa (q2 := q ++ [x]) (by rw [RInt.ints_snoc]; exact hr3) hch3 hcc hcl)
        clear hr3 hch3 hs3 HC1 hcx
        have hcx := HX.out w3 HC3.out.below
        have HO3 := Lib.hid HC3.out.put
        obtain ⟨Ap1, cp1, rfl⟩ := HC3.out.pform
        obtain ⟨Ag1, cg1, rfl⟩ := HC3.out.gform
        go_wp2_with (at_builtin; go_must (refine wpList_append_two rfl (.tmp 84) (.tmp 89) 42 rfl w.heap.size 3 i0 (.int .i64 0) 1 8 Try.underlying42 hi hz0 hz1 hz2 (by rfl) (by decide) _ _ _ (by rfl) (HO3.out.alloc _) w3.heap.size (.slice (some ⟨w3.heap.size, 0, none⟩) 1 1) 1 [.int .i64 x] (by rfl) (World.ownsRow_lit w3 #[.int .i64 x] 1 (Nat.le_refl _) (by decide) rfl) (by intro u hu; simp at hu; subst hu; rfl) (by unfold maxLen; omega) (by omega) (by have := HC3.out.below.size; simp; omega) ?_))
        intro v4 w4 ho4 hg4 hat4
        have HQ' := Lib.hid ((HC3.out.on ((Below.refl _ w3).alloc (Nat.le_refl _) _)).putted (ys := [x]) ho4 hg4 (by simpa using hat4))
        obtain ⟨Ap4, cp4, rfl⟩ := HQ'.out.pform
        have hpl : (P ++ [x]).length = P.length + 1 := by simp
        have HQ : Hid (Chn w w4 p c n1 p' c' n2 (.slice Ap4 (P.length + 1) cp4) (.slice Ag1 G.length cg1) (P ++ [x]) G (q ++ [x]) q') := by have := HQ'.out; rw [hpl] at this; exact this
        have HEQ : Hid (G ++ q' ++ (q ++ [x]) = P ++ [x]) := by show _ = _; rw [← HE.out]; simp
        rw [hpl]
        clear ho4 hg4 hat4 HO3 HC3 HQ' HE hpl hcx
        go_wp2_with fail
        go_loopw [12, 14] (fun vg i wr => ∃ j : Nat, j ≤ 10 ∧ i = .int .i64 j ∧ ∃ G q q', Chn w wr p c n1 p' c' n2 (.slice Ap4 (P.length + 1) cp4) vg (P ++ [x]) G q q' ∧ G ++ q' ++ q = (P ++ [x]) ∧ q.length ≤ n1 ∧ q'.length ≤ n2) (fun _ i _ => 10 - (intOf i).toNat)
        case atStart => exact ⟨0, by omega, rfl, _, _, _, HQ.out, HEQ.out, by (try simp); omega, hq'⟩
        case round =>
          clear HQ HEQ hq hq'
          obtain ⟨j, hj, rfl, Gz, qz, qy, HC, hE, hqz, hqy⟩ := hrel
          have HZ := Lib.hid HC
          have HEZ := Lib.hid hE
          have hlen : Gz.length + qy.length + qz.length ≤ 201 := by have := congrArg List.length hE; simp at this; omega
          obtain ⟨Agz, cgz, rfl⟩ := HC.gform
          clear HC hE
          by_cases hjn : (j : Int) < n
          · by_cases hj10 : j < 10
            · by_cases hfull : qy.length < n2
              · go_wp2_with fail
                refine (RInt.room_open HZ.out.rb (by rw [ints_length]; omega) (by omega)).mono ?_
                rintro e w5 ⟨rfl, hb5, hs5⟩
                have HZ5 := Lib.hid (HZ.out.on hb5)
                have hpos : 0 < n2 - (ints qy).length := by rw [ints_length]; omega
                obtain ⟨rm, hrm⟩ : ∃ r, r = n2 - (ints qy).length := ⟨_, rfl⟩
                rw [← hrm] at hpos ⊢
                clear HZ hb5 hs5 hrm
                have HZ := HZ5
                clear HZ5
                cases qz with
                | nil =>
                  go_wp2_with fail
                  refine (RInt.take_none HZ.out.ra).mono ?_
                  rintro e w' ⟨rfl, rfl⟩
                  go_wp2
                  go_roundw
                  case rel => exact ⟨k + 1, by omega, by go_num, _, _, _, _, HZ.out, HEZ.out, by (try simp); omega, by omega, by omega⟩
                  case measure => simp [intOf]; omega
                | cons y r =>
                  go_wp2_with fail
                  refine (RInt.take_some y (q := ints r) HZ.out.ra).mono ?_
                  rintro e w7 ⟨rfl, hr7, hch7, hs7⟩
                  have HC7 := Lib.hid (HZ.out.opa (q2 := r) hr7 hch7 hcc hcl)
                  clear hr7 hch7 hs7 HZ
                  go_wp2_with fail
                  refine (RInt.put_room y HC7.out.rb (by rw [ints_length]; omega)).mono ?_
                  rintro e w8 ⟨rfl, hr8, hch8, hs8⟩
                  have HC8 := Lib.hid (HC7.out.opb (q2 := qy ++ [y]) (by rw [RInt.ints_snoc]; exact hr8) hch8 hcc hcl')
                  clear hr8 hch8 hs8 HC7
                  go_wp2
                  go_roundw
                  case rel => exact ⟨j + 1, by omega, by go_num, _, _, _, HC8.out, by rw [← HEZ.out]; simp, by simp at hqz; omega, by (try simp); omega⟩
                  case measure => simp [intOf]; omega
              · cases qy with
                | nil => simp at hfull; omega
                | cons z qy =>
                  go_wp2_with fail
                  refine (RInt.room_open HZ.out.rb (by rw [ints_length]; omega) (by omega)).mono ?_
                  rintro e w5 ⟨rfl, hb5, hs5⟩
                  have hz : n2 - (ints (z :: qy)).length = 0 := by rw [ints_length]; omega
                  rw [hz]
                  have HZ5 := Lib.hid (HZ.out.on hb5)
                  clear hz HZ hb5 hs5
                  go_wp2_with fail
                  refine (RInt.take_some z (q := ints qy) HZ5.out.rb).mono ?_
                  rintro e w6 ⟨rfl, hr6, hch6, hs6⟩
                  have HC6 := Lib.hid (HZ5.out.opb (q2 := qy) hr6 hch6 hcc hcl')
                  have HO6 := Lib.hid HC6.out.got
                  clear hr6 hch6 hs6 HZ5
                  go_wp2_with (at_builtin; go_must (refine wpList_append_two rfl (.tmp 110) (.tmp 112) 42 rfl w.heap.size 3 i0 (.int .i64 0) 1 8 Try.underlying42 hi hz0 hz1 hz2 (by rfl) (by decide) _ _ _ (by rfl) (HO6.out.alloc _) w6.heap.size (.slice (some ⟨w6.heap.size, 0, none⟩) 1 1) 1 [.int .i64 z] (by rfl) (World.ownsRow_lit w6 #[.int .i64 z] 1 (Nat.le_refl _) (by decide) rfl) (by intro u hu; simp at hu; subst hu; rfl) (by unfold maxLen; omega) (by omega) (by have := HC6.out.below.size; simp; omega) ?_))
                  intro v9 w9 ho9 hg9 hat9
                  have HZ := Lib.hid ((HC6.out.on ((Below.refl _ w6).alloc (Nat.le_refl _) _)).gotten (ys := [z]) ho9 hg9 (by simpa using hat9))
                  have HEZ' : Hid (Gz ++ [z] ++ qy ++ qz = (P ++ [x])) := by show _ = _; rw [← HEZ.out]; simp
                  clear ho9 hg9 hat9 HO6 HC6 HEZ
                  have HEZ := HEZ'
                  clear HEZ'
                  simp at hqy hfull hlen
                  have hfull : qy.length < n2 := by omega
                  cases qz with
                  | nil =>
                    go_wp2_with fail
                    refine (RInt.take_none HZ.out.ra).mono ?_
                    rintro e w' ⟨rfl, rfl⟩
                    go_wp2
                    go_roundw
                    case rel => exact ⟨k + 1, by omega, by go_num, _, _, _, _, HZ.out, HEZ.out, by (try simp); omega, by omega, by omega⟩
                    case measure => simp [intOf]; omega
                  | cons y r =>
                    go_wp2_with fail
                    refine (RInt.take_some y (q := ints r) HZ.out.ra).mono ?_
                    rintro e w7 ⟨rfl, hr7, hch7, hs7⟩
                    have HC7 := Lib.hid (HZ.out.opa (q2 := r) hr7 hch7 hcc hcl)
                    clear hr7 hch7 hs7 HZ
                    go_wp2_with fail
                    refine (RInt.put_room y HC7.out.rb (by rw [ints_length]; omega)).mono ?_
                    rintro e w8 ⟨rfl, hr8, hch8, hs8⟩
                    have HC8 := Lib.hid (HC7.out.opb (q2 := qy ++ [y]) (by rw [RInt.ints_snoc]; exact hr8) hch8 hcc hcl')
                    clear hr8 hch8 hs8 HC7
                    go_wp2
                    go_roundw
                    case rel => exact ⟨j + 1, by omega, by go_num, _, _, _, HC8.out, by rw [← HEZ.out]; simp, by simp at hqz; omega, by (try simp); omega⟩
                    case measure => simp [intOf]; omega
            · have hj2 : j = 10 := by omega
              subst hj2
              go_wp2_with fail
              go_roundw
              case rel => exact ⟨k + 1, by omega, by go_num, _, _, _, _, HZ.out, HEZ.out, by (try simp); omega, by omega, by omega⟩
              case measure => simp [intOf]; omega
          · go_wp2_with fail
            go_roundw
            case rel => exact ⟨k + 1, by omega, by go_num, _, _, _, _, HZ.out, HEZ.out, by (try simp); omega, by omega, by omega⟩
            case measure => simp [intOf]; omega
      · go_wp2_with fail
        refine (RInt.put_full x HC1.out.ra (by rw [ints_length]; omega)).mono ?_
        rintro e w' ⟨rfl, rfl⟩
        obtain ⟨Ap1, cp1, rfl⟩ := HC1.out.pform
        have HQ := HC1
        have HEQ := HE
        clear HC1 HE hcx
        go_wp2_with fail
        go_loopw [12, 14] (fun vg i wr => ∃ j : Nat, j ≤ 10 ∧ i = .int .i64 j ∧ ∃ G q q', Chn w wr p c n1 p' c' n2 (.slice Ap1 P.length cp1) vg P G q q' ∧ G ++ q' ++ q = P ∧ q.length ≤ n1 ∧ q'.length ≤ n2) (fun _ i _ => 10 - (intOf i).toNat)
        case atStart => exact ⟨0, by omega, rfl, _, _, _, HQ.out, HEQ.out, by (try simp); omega, hq'⟩
        case round =>
          clear HQ HEQ hq hq'
          obtain ⟨j, hj, rfl, Gz, qz, qy, HC, hE, hqz, hqy⟩ := hrel
          have HZ := Lib.hid HC
          have HEZ := Lib.hid hE
          have hlen : Gz.length + qy.length + qz.length ≤ 201 := by have := congrArg List.length hE; simp at this; omega
          obtain ⟨Agz, cgz, rfl⟩ := HC.gform
          clear HC hE
          by_cases hjn : (j : Int) < n
          · by_cases hj10 : j < 10
            · by_cases hfull : qy.length < n2
              · go_wp2_with fail
                refine (RInt.room_open HZ.out.rb (by rw [ints_length]; omega) (by omega)).mono ?_
                rintro e w5 ⟨rfl, hb5, hs5⟩
                have HZ5 := Lib.hid (HZ.out.on hb5)
                have hpos : 0 < n2 - (ints qy).length := by rw [ints_length]; omega
                obtain ⟨rm, hrm⟩ : ∃ r, r = n2 - (ints qy).length := ⟨_, rfl⟩
                rw [← hrm] at hpos ⊢
                clear HZ hb5 hs5 hrm
                have HZ := HZ5
                clear HZ5
                cases qz with
                | nil =>
                  go_wp2_with fail
                  refine (RInt.take_none HZ.out.ra).mono ?_
                  rintro e w' ⟨rfl, rfl⟩
                  go_wp2
                  go_roundw
                  case rel => exact ⟨k + 1, by omega, by go_num, _, _, _, _, HZ.out, HEZ.out, by (try simp); omega, by omega, by omega⟩
                  case measure => simp [intOf]; omega
                | cons y r =>
                  go_wp2_with fail
                  refine (RInt.take_some y (q := ints r) HZ.out.ra).mono ?_
                  rintro e w7 ⟨rfl, hr7, hch7, hs7⟩
                  have HC7 := Lib.hid (HZ.out.opa (q2 := r) hr7 hch7 hcc hcl)
                  clear hr7 hch7 hs7 HZ
                  go_wp2_with fail
                  refine (RInt.put_room y HC7.out.rb (by rw [ints_length]; omega)).mono ?_
                  rintro e w8 ⟨rfl, hr8, hch8, hs8⟩
                  have HC8 := Lib.hid (HC7.out.opb (q2 := qy ++ [y]) (by rw [RInt.ints_snoc]; exact hr8) hch8 hcc hcl')
                  clear hr8 hch8 hs8 HC7
                  go_wp2
                  go_roundw
                  case rel => exact ⟨j + 1, by omega, by go_num, _, _, _, HC8.out, by rw [← HEZ.out]; simp, by simp at hqz; omega, by (try simp); omega⟩
                  case measure => simp [intOf]; omega
              · cases qy with
                | nil => simp at hfull; omega
                | cons z qy =>
                  go_wp2_with fail
                  refine (RInt.room_open HZ.out.rb (by rw [ints_length]; omega) (by omega)).mono ?_
                  rintro e w5 ⟨rfl, hb5, hs5⟩
                  have hz : n2 - (ints (z :: qy)).length = 0 := by rw [ints_length]; omega
                  rw [hz]
                  have HZ5 := Lib.hid (HZ.out.on hb5)
                  clear hz HZ hb5 hs5
                  go_wp2_with fail
                  refine (RInt.take_some z (q := ints qy) HZ5.out.rb).mono ?_
                  rintro e w6 ⟨rfl, hr6, hch6, hs6⟩
                  have HC6 := Lib.hid (HZ5.out.opb (q2 := qy) hr6 hch6 hcc hcl')
                  have HO6 := Lib.hid HC6.out.got
                  clear hr6 hch6 hs6 HZ5
                  go_wp2_with (at_builtin; go_must (refine wpList_append_two rfl (.tmp 110) (.tmp 112) 42 rfl w.heap.size 3 i0 (.int .i64 0) 1 8 Try.underlying42 hi hz0 hz1 hz2 (by rfl) (by decide) _ _ _ (by rfl) (HO6.out.alloc _) w6.heap.size (.slice (some ⟨w6.heap.size, 0, none⟩) 1 1) 1 [.int .i64 z] (by rfl) (World.ownsRow_lit w6 #[.int .i64 z] 1 (Nat.le_refl _) (by decide) rfl) (by intro u hu; simp at hu; subst hu; rfl) (by unfold maxLen; omega) (by omega) (by have := HC6.out.below.size; simp; omega) ?_))
                  intro v9 w9 ho9 hg9 hat9
                  have HZ := Lib.hid ((HC6.out.on ((Below.refl _ w6).alloc (Nat.le_refl _) _)).gotten (ys := [z]) ho9 hg9 (by simpa using hat9))
                  have HEZ' : Hid (Gz ++ [z] ++ qy ++ qz = P) := by show _ = _; rw [← HEZ.out]; simp
                  clear ho9 hg9 hat9 HO6 HC6 HEZ
                  have HEZ := HEZ'
                  clear HEZ'
                  simp at hqy hfull hlen
                  have hfull : qy.length < n2 := by omega
                  cases qz with
                  | nil =>
                    go_wp2_with fail
                    refine (RInt.take_none HZ.out.ra).mono ?_
                    rintro e w' ⟨rfl, rfl⟩
                    go_wp2
                    go_roundw
                    case rel => exact ⟨k + 1, by omega, by go_num, _, _, _, _, HZ.out, HEZ.out, by (try simp); omega, by omega, by omega⟩
                    case measure => simp [intOf]; omega
                  | cons y r =>
                    go_wp2_with fail
                    refine (RInt.take_some y (q := ints r) HZ.out.ra).mono ?_
                    rintro e w7 ⟨rfl, hr7, hch7, hs7⟩
                    have HC7 := Lib.hid (HZ.out.opa (q2 := r) hr7 hch7 hcc hcl)
                    clear hr7 hch7 hs7 HZ
                    go_wp2_with fail
                    refine (RInt.put_room y HC7.out.rb (by rw [ints_length]; omega)).mono ?_
                    rintro e w8 ⟨rfl, hr8, hch8, hs8⟩
                    have HC8 := Lib.hid (HC7.out.opb (q2 := qy ++ [y]) (by rw [RInt.ints_snoc]; exact hr8) hch8 hcc hcl')
                    clear hr8 hch8 hs8 HC7
                    go_wp2
                    go_roundw
                    case rel => exact ⟨j + 1, by omega, by go_num, _, _, _, HC8.out, by rw [← HEZ.out]; simp, by simp at hqz; omega, by (try simp); omega⟩
                    case measure => simp [intOf]; omega
            · have hj2 : j = 10 := by omega
              subst hj2
              go_wp2_with fail
              go_roundw
              case rel => exact ⟨k + 1, by omega, by go_num, _, _, _, _, HZ.out, HEZ.out, by (try simp); omega, by omega, by omega⟩
              case measure => simp [intOf]; omega
          · go_wp2_with fail
            go_roundw
            case rel => exact ⟨k + 1, by omega, by go_num, _, _, _, _, HZ.out, HEZ.out, by (try simp); omega, by omega, by omega⟩
            case measure => simp [intOf]; omega
    · have hlen : G.length + q'.length + q.length ≤ 200 := by have := congrArg List.length HE.out; simp at this; omega
      obtain ⟨Ap1, cp1, rfl⟩ := HC1.out.pform
      obtain ⟨Ag1, cg1, rfl⟩ := HC1.out.gform
      go_wp2_with fail
      refine (RInt.drain_any p' c' n2 false q' wr (by omega) (Lib.hid HC1.out.rb)).mono ?_
      rintro e w3 ⟨va, rfl, hown, hr3, hch3⟩
      have HC3 := Lib.hid (HC1.out.opb (q2 := []) hr3 hch3 hcc hcl')
      have HV := Lib.hid hown
      have HO3 := Lib.hid HC3.out.got
      clear hr3 hch3 hown HC1
      go_wp2_with (at_builtin; go_must (refine wpList_append_two rfl (.tmp 125) (.tmp 127) 42 rfl w.heap.size 3 i0 (.int .i64 0) 1 8 Try.underlying42 hi hz0 hz1 hz2 (by rfl) (by decide) _ _ _ (by rfl) HO3.out _ _ _ _ (by rfl) HV.out (by intro u hu; simp [ints] at hu; obtain ⟨a, _, rfl⟩ := hu; rfl) (by unfold maxLen; omega) (by omega) HC3.out.below.size ?_))
      intro v4 w4 ho4 hg4 hat4
      have HC4 := Lib.hid (HC3.out.gotten ho4 hg4 hat4)
      clear ho4 hg4 hat4 HO3 HC3 HV
      go_wp2_with fail
      refine (RInt.drain_any p c n1 false q w4 (by omega) (Lib.hid HC4.out.ra)).mono ?_
      rintro e w5 ⟨vb, rfl, hown, hr3, hch3⟩
      have HC5 := Lib.hid (HC4.out.opa (q2 := []) hr3 hch3 hcc hcl)
      have HV := Lib.hid hown
      have HO5 := Lib.hid HC5.out.got
      clear hr3 hch3 hown HC4
      go_wp2_with (at_builtin; go_must (refine wpList_append_two rfl (.tmp 129) (.tmp 131) 42 rfl w.heap.size 3 i0 (.int .i64 0) 1 8 Try.underlying42 hi hz0 hz1 hz2 (by rfl) (by decide) _ _ _ (by rfl) HO5.out _ _ _ _ (by rfl) HV.out (by intro u hu; simp [ints] at hu; obtain ⟨a, _, rfl⟩ := hu; rfl) (by unfold maxLen; simp; omega) (by simp; omega) HC5.out.below.size ?_))
      intro v6 w6 ho6 hg6 hat6
      have ho6' : w6.ownsRow w.heap.size 3 1 v6 ((G ++ q').length + q.length) (ints (G ++ q') ++ ints q) := by rw [List.length_append]; exact ho6
      have HC6 := Lib.hid (HC5.out.gotten ho6' hg6 hat6)
      clear ho6 ho6' hg6 hat6 HO5 HC5 HV
      rw [HE.out] at HC6
      obtain ⟨Ag6, cg6, rfl⟩ := HC6.out.gform
      go_wp2_with fail
      refine (ints_any _ _ P.length P.length P P _ (by omega) (by omega) (Rd.of_own HC6.out.got) (Rd.of_own HC6.out.put)).mono ?_
      rintro e w7 ⟨rfl, hb7⟩
      have hdd : decide (P = P) = true := by simp
      rw [hdd]
      have HC7 := Lib.hid (HC6.out.on hb7)
      clear hb7 hdd HC6
      go_wp2_with fail
      refine (RInt.len_any HC7.out.ra).mono ?_
      rintro e w' ⟨rfl, rfl⟩
      go_wp2_with fail
      refine (RInt.len_any HC7.out.rb).mono ?_
      rintro e w' ⟨rfl, rfl⟩
      rw [show (((ints []).length : Nat) : Int) = 0 from rfl]
      go_wp2_with fail
      refine (awake_any _).mono ?_
      rintro e w8 ⟨rfl, hb8⟩
      have HB8 := Lib.hid (keep_call HC7.out.below hb8)
      clear hb8
      go_wp2
      go_ret
      exact ⟨rfl, HB8.out⟩
end Go.Proofs.Ytpfhmkfeneejeaa
