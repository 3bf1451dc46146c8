/- The document's ledger: pairs in a row; There, Has, Scrub, Put. -/
import Derived.Test.YtieojomabmippaaAwake
import Derived.ChangeKeysEq
namespace Go.Proofs.Ytieojomabmippaa
open Go.RowKit Go.LawEnd

abbrev Pr := Int × Int
theorem infoTwo : ∃ i : TypeInfo, Try.prog.info? 22 = some i ∧ i.zero = some (.agg #[.int .i64 0, .int .i64 0]) ∧ i.size = 2 ∧ i.bytes = 16 := by
  have h : ((Try.prog.info? 22).map fun i => (i.zero, i.size, i.bytes)) = some (some (.agg #[.int .i64 0, .int .i64 0]), 2, 16) := by kernel_rfl
  cases hi : Try.prog.info? 22 with
  | none => rw [hi] at h; cases h
  | some i =>
    rw [hi] at h
    injection h with h
    injection h with h1 h
    injection h with h2 h3
    exact ⟨i, rfl, h1, h2, h3⟩
theorem infoInt : ∃ i : TypeInfo, Try.prog.info? 3 = some i := by
  have h : (Try.prog.info? 3).isSome = true := by kernel_rfl
  exact Option.isSome_iff_exists.1 h
theorem eql_two (a b c d : Int) (w : World) : (binOp BinOp.eql 22 (.agg #[.int .i64 a, .int .i64 b]) (.agg #[.int .i64 c, .int .i64 d])).run Try.prog w = .ok (.bool (decide (a = c ∧ b = d))) w := by
  obtain ⟨i, hi⟩ := infoInt
  rw [run_eql_struct, show (10000 : Nat) = 9999 + 1 from rfl, run_equalIn_array w 9999 _ _ Try.underlying22 hi, show Try.prog.cellsOf 3 = 1 from by kernel_rfl]
  have e : (Op.eqItems 9999 3 1 #[.int .i64 a, .int .i64 b] #[.int .i64 c, .int .i64 d] (List.range 2)).run Try.prog w = .ok (decide (a = c ∧ b = d)) w := by
    simp only [List.range, List.range.loop, Op.eqItems]
    go_simp
    by_cases h1 : a = c <;> by_cases h2 : b = d <;> simp [h1, h2]
  rw [e]; rfl
def prs (l : List Pr) : List Value := l.flatMap fun p => [.int .i64 p.1, .int .i64 p.2]
theorem prs_length (l : List Pr) : (prs l).length = l.length * 2 := by
  induction l with
  | nil => rfl
  | cons p l ih => simp only [prs, List.flatMap_cons, List.length_append] at ih ⊢; rw [ih]; simp; omega
theorem prs_get (l : List Pr) (j : Nat) (h : j < l.length) : (prs l)[j * 2]? = some (.int .i64 l[j].1) ∧ (prs l)[j * 2 + 1]? = some (.int .i64 l[j].2) := by
  induction l generalizing j with
  | nil => simp at h
  | cons p l ih =>
    have e : prs (p :: l) = .int .i64 p.1 :: .int .i64 p.2 :: prs l := by simp [prs]
    rw [e]
    cases j with
    | zero => simp
    | succ j =>
      have := ih j (by simpa using h)
      rw [show (j + 1) * 2 = j * 2 + 1 + 1 by omega]
      simpa using this
theorem prs_append (a b : List Pr) : prs (a ++ b) = prs a ++ prs b := by simp [prs]
abbrev prA (v : Value) (l : List Pr) : Atom := rowA v 22 2 l.length (prs l)
noncomputable def refA (r : Nat) (s b : Int) (l : List Pr) : Atom := packA fun v : Value => [blkA r 56 #[.int .i64 s, .int .i64 b, v], prA v l]
theorem app_pr {w0 W : World} {S : Nat → Prop} {L : List Atom} {v : Value} {l : List Pr} (h : Hv w0 S (prA v l :: L) W) (te : TypeId) (hl : l.length ≤ 4000000) (p : Pr) :
    ∃ g cap w', (Builtin.append_ #[54, 54] 54 #[v, .slice (some ⟨W.heap.size, 0, none⟩) 1 1]).run Try.prog (W.alloc (.cells #[.int .i64 p.1, .int .i64 p.2] te)) = .ok (.slice (some ⟨g, 0, none⟩) (l.length + 1) cap) w' ∧
      Hv w0 S (prA (.slice (some ⟨g, 0, none⟩) (l.length + 1) cap) (l ++ [p]) :: L) w' := by
  obtain ⟨i0, hi0, hz0, hz1, hz2⟩ := infoTwo
  obtain ⟨g, cap, w', h1, h2, _, _⟩ := h.append (P := Try.prog) 54 54 te (i := i0) (bytes := 16) Try.underlying54 hi0 hz0 hz1 hz2 rfl (by omega) 1 (by omega) #[.int .i64 p.1, .int .i64 p.2] rfl (by
    intro u hu
    simp only [List.mem_cons, List.not_mem_nil, or_false] at hu
    rcases hu with rfl | rfl <;> rfl) (by unfold maxLen; omega) (by omega)
  refine ⟨g, cap, w', h1, ?_⟩
  have e1 : (l ++ [p]).length = l.length + 1 := by simp
  unfold prA
  rw [e1, prs_append]
  exact h2
theorem ref_cells {w0 w : World} {S : Nat → Prop} {R : List Atom} {r : Nat} {s b : Int} {l : List Pr} (h : Hv w0 S (refA r s b l :: R) w) : ∃ A c, w.cell? ⟨r, 0, none⟩ = some (.int .i64 s) ∧ w.cell? ⟨r, 1, none⟩ = some (.int .i64 b) ∧ w.cell? ⟨r, 2, none⟩ = some (.slice A l.length c) ∧
    (∀ k (hk : k < l.length), ∃ g, A = some ⟨g, 0, none⟩ ∧ w.cell? ⟨g, k * 2, none⟩ = some (.int .i64 l[k].1) ∧ w.cell? ⟨g, k * 2 + 1, none⟩ = some (.int .i64 l[k].2)) ∧
    Hv w0 S (blkA r 56 #[.int .i64 s, .int .i64 b, .slice A l.length c] :: prA (.slice A l.length c) l :: R) w := by
  obtain ⟨v, hv⟩ := h.open_
  have hr := hv.row (i := 1) rfl
  obtain ⟨A, c, rfl⟩ := row_form hr
  refine ⟨A, c, by simpa using (hv.blk (i := 0) rfl).cell 0, by simpa using (hv.blk (i := 0) rfl).cell 1, by simpa using (hv.blk (i := 0) rfl).cell 2, fun k hk => ?_, hv⟩
  rcases hr.2 with ⟨_, h0⟩ | ⟨g, cap, cur, e, _, hh, _⟩
  · omega
  · cases e
    have hx := hr.1
    refine ⟨g, rfl, ?_, ?_⟩
    · rw [hr.cellAt (k * 2) (by omega)]; exact (prs_get l k hk).1
    · rw [hr.cellAt (k * 2 + 1) (by omega)]; exact (prs_get l k hk).2
theorem ref_close {w0 w : World} {S : Nat → Prop} {R : List Atom} {r : Nat} {s b : Int} {l : List Pr} {v : Value} (h : Hv w0 S (blkA r 56 #[.int .i64 s, .int .i64 b, v] :: prA v l :: R) w) : Hv w0 S (refA r s b l :: R) w :=
  Hv.close (f := fun v : Value => [blkA r 56 #[.int .i64 s, .int .i64 b, v], prA v l]) v h
section
variable {T : Nat → Prop} {r : Nat} {s b : Int} {l : List Pr} {w : World} {R : List Atom}
def thereB (s i : Int) : Bool := decide (0 ≤ i) && decide (i < s)
theorem there_any (i : Int) (h : Hid (Sep (refA r s b l :: R) w T)) : Calls Try.prog 42 #[.pointer (some ⟨r, 0, none⟩), .int .i64 i] w fun e w' => e = .returned (.bool (thereB s i)) ∧ w = w' := by
  obtain ⟨A, c, k0, _, _, _, _⟩ := ref_cells (Hv.start h.out)
  clear h
  cases d1 : decide (0 ≤ i)
  · have HE : Hid (thereB s i = false) := by show _ = _; unfold thereB; rw [d1]; rfl
    rw [HE.out]
    go_enter Try.func42, Try.ntmps42
    go_wp2
    go_ret
    exact ⟨rfl, rfl⟩
  · cases d2 : decide (i < s)
    all_goals
      have HE : Hid (thereB s i = decide (i < s)) := by show _ = _; unfold thereB; rw [d1]; rfl
      rw [HE.out, d2]
      go_enter Try.func42, Try.ntmps42
      go_wp2
      go_ret
      exact ⟨rfl, rfl⟩
theorem take_no {p : Pr} {k : Nat} (hk : k < l.length) (h : ¬ p ∈ l.take k) (hn : ¬ l[k] = p) : ¬ p ∈ l.take (k + 1) := by
  rw [List.take_succ_eq_append_getElem hk, List.mem_append, List.mem_singleton]
  rintro (h' | h')
  · exact h h'
  · exact hn h'.symm
set_option maxRecDepth 100000 in
set_option maxHeartbeats 3200000 in
theorem rhas_any (i x : Int) (hlen : l.length ≤ 1000000) (h : Hid (Sep (refA r s b l :: R) w T)) : Calls Try.prog 43 #[.pointer (some ⟨r, 0, none⟩), .int .i64 i, .int .i64 x] w fun e w' => e = .returned (.bool (decide ((i, x) ∈ l))) ∧ w = w' := by
  obtain ⟨A, c, _, _, k2, k3, _⟩ := ref_cells (Hv.start h.out)
  have K3 := Lib.hid k3
  have heq := eql_two
  obtain ⟨n, hn⟩ : ∃ n, n = l.length := ⟨_, rfl⟩
  have HN : Hid (n = l.length) := hn
  rw [← hn] at k2 hlen
  obtain ⟨M, hM⟩ : ∃ y, y = decide ((i, x) ∈ l) := ⟨_, rfl⟩
  have HM := Lib.hid hM
  rw [← hM]
  clear h k3 hn hM
  go_enter Try.func43, Try.ntmps43
  go_wp2_with fail
  go_loopw [7] (fun j wr => ∃ k : Nat, k ≤ n ∧ j = .int .i64 k ∧ wr = w ∧ Hid (¬ (i, x) ∈ l.take k)) (fun j _ => n - (vInt j).toNat)
  case atStart => exact ⟨0, by omega, rfl, rfl, by show ¬ _; simp⟩
  case round =>
    obtain ⟨k, hk, rfl, rfl, HI⟩ := hrel
    by_cases hkl : k < n
    · obtain ⟨g, rfl, c0, c1⟩ := K3.out k (by rw [← HN.out]; exact hkl)
      have hkl2 : k < l.length := by rw [← HN.out]; exact hkl
      obtain ⟨a, ha⟩ : ∃ y, y = (l[k]'hkl2).1 := ⟨_, rfl⟩
      obtain ⟨d, hd⟩ : ∃ y, y = (l[k]'hkl2).2 := ⟨_, rfl⟩
      have HP : Hid (l[k]'hkl2 = (a, d)) := by show _ = _; rw [ha, hd]
      rw [← ha] at c0
      rw [← hd] at c1
      clear ha hd
      cases he : decide (a = i ∧ d = x)
      · have HI2 : Hid (¬ (i, x) ∈ l.take (k + 1)) := take_no hkl2 HI.out (by rw [HP.out, Prod.mk.injEq]; exact of_decide_eq_false he)
        go_wp2
        go_roundw
        case rel => exact ⟨k + 1, by omega, by go_num, trivial, HI2⟩
        case measure => simp [vInt]; omega
      · have HE : Hid (M = true) := by
          show _ = _
          have he2 : (a, d) = (i, x) := by rw [Prod.mk.injEq]; exact of_decide_eq_true he
          rw [HM.out, ← he2, ← HP.out]
          exact decide_eq_true (List.getElem_mem _)
        go_wp2
        go_ret
        exact ⟨by rw [HE.out]; rfl, rfl⟩
    · obtain rfl : k = n := by omega
      have HE : Hid (M = false) := by
        show _ = _
        rw [HM.out]
        have := HI.out
        rw [HN.out, List.take_length] at this
        exact decide_eq_false this
      go_wp2
      go_ret
      exact ⟨by rw [HE.out]; rfl, rfl⟩
def offS (i : Int) (l : List Pr) : List Pr := l.filter fun p => !decide (p.1 = i)
theorem offS_take {i : Int} {k : Nat} (hk : k < l.length) : offS i (l.take (k + 1)) = if l[k].1 = i then offS i (l.take k) else offS i (l.take k) ++ [l[k]] := by
  unfold offS
  rw [List.take_succ_eq_append_getElem hk, List.filter_append]
  by_cases h : l[k].1 = i
  · rw [if_pos h]; simp [h]
  · rw [if_neg h]; simp [h]
theorem offS_len {i : Int} {k : Nat} : (offS i (l.take k)).length ≤ l.length := by
  unfold offS
  exact Nat.le_trans (List.length_filter_le _ _) (by rw [List.length_take]; omega)
theorem row_pr {A : Option Addr} {c : Nat} (hr : w.ownsRow 0 22 2 (.slice A l.length c) l.length (prs l)) (k : Nat) (hk : k < l.length) : ∃ g, A = some ⟨g, 0, none⟩ ∧ w.cell? ⟨g, k * 2, none⟩ = some (.int .i64 l[k].1) ∧ w.cell? ⟨g, k * 2 + 1, none⟩ = some (.int .i64 l[k].2) := by
  rcases hr.2 with ⟨_, h0⟩ | ⟨g, cap, cur, e, _, hh, _⟩
  · omega
  · cases e
    have hx := hr.1
    refine ⟨g, rfl, ?_, ?_⟩
    · rw [hr.cellAt (k * 2) (by omega)]; exact (prs_get l k hk).1
    · rw [hr.cellAt (k * 2 + 1) (by omega)]; exact (prs_get l k hk).2
set_option maxRecDepth 100000 in
set_option maxHeartbeats 3200000 in
theorem rscrub_any (i : Int) (hlen : l.length ≤ 1000000) (h : Hid (Sep (refA r s b l :: R) w T)) : Calls Try.prog 24 #[.pointer (some ⟨r, 0, none⟩), .int .i64 i] w fun e w' => e = .returned (.bool (thereB s i)) ∧ Hv w T (refA r s b (offS i l) :: R) w' := by
  obtain ⟨A, c, k0, _, k2, _, hv⟩ := ref_cells (Hv.start h.out)
  obtain ⟨n, hn⟩ : ∃ n, n = l.length := ⟨_, rfl⟩
  have HN : Hid (n = l.length) := hn
  have H0 : Hid (Hv w T (prA (.slice none 0 0) (offS i (l.take 0)) :: blkA r 56 #[.int .i64 s, .int .i64 b, .slice A n c] :: prA (.slice A n c) l :: R) w) := by
    rw [← hn] at hv
    exact hv.nilRow 22 2
  rw [← hn] at k2 hlen
  clear h hv hn k2
  go_enter Try.func24, Try.ntmps24
  go_wp2_with fail
  go_loopw [5, 6] (fun v j wr => ∃ k : Nat, k ≤ n ∧ j = .int .i64 k ∧ Hid (Hv w T (prA v (offS i (l.take k)) :: blkA r 56 #[.int .i64 s, .int .i64 b, .slice A n c] :: prA (.slice A n c) l :: R) wr)) (fun _ j _ => n - (vInt j).toNat)
  case atStart => exact ⟨0, by omega, rfl, H0.out⟩
  case round =>
    clear H0
    obtain ⟨k, hk, rfl, HI⟩ := hrel
    have q2 : wr.cell? ⟨r, 2, none⟩ = some (.slice A n c) := by simpa using (HI.out.blk (i := 1) rfl).cell 2
    by_cases hkl : k < n
    · have hkl2 : k < l.length := by rw [← HN.out]; exact hkl
      obtain ⟨a, ha⟩ : ∃ y, y = (l[k]'hkl2).1 := ⟨_, rfl⟩
      obtain ⟨d, hd⟩ : ∃ y, y = (l[k]'hkl2).2 := ⟨_, rfl⟩
      have HP : Hid (l[k]'hkl2 = (a, d)) := by show _ = _; rw [ha, hd]
      have hr := HI.out.row (i := 2) rfl
      rw [HN.out] at hr
      obtain ⟨g, rfl, c0, c1⟩ := row_pr hr k hkl2
      rw [← ha] at c0
      rw [← hd] at c1
      clear ha hd hr
      by_cases he : a = i
      · have hne : (a == i) = true := by simpa using he
        have HT : Hid (offS i (l.take (k + 1)) = offS i (l.take k)) := by show _ = _; rw [offS_take hkl2, HP.out, if_pos he]
        clear he
        go_wp2_with fail
        go_roundw
        case rel => exact ⟨k + 1, by omega, by go_num, by rw [HT.out]; exact HI⟩
        case measure => simp [vInt]; omega
      · have hne : (a == i) = false := by simpa using he
        have HT : Hid (offS i (l.take (k + 1)) = offS i (l.take k) ++ [(a, d)]) := by show _ = _; rw [offS_take hkl2, HP.out, if_neg he]
        have hlo : (offS i (l.take k)).length ≤ n := by rw [HN.out]; exact offS_len
        obtain ⟨M, hM⟩ : ∃ M, M = offS i (l.take k) := ⟨_, rfl⟩
        rw [← hM] at HI HT hlo
        clear hM
        obtain ⟨g2, cap, W2, hE, hH⟩ := app_pr HI.out 22 (by omega) (a, d)
        obtain ⟨m, hm⟩ : ∃ m, m = M.length := ⟨_, rfl⟩
        have hr0 := HI.out.row (i := 0) rfl
        rw [← hm] at hE hr0
        obtain ⟨A0, c0', rfl⟩ := row_form hr0
        have HE := Lib.hid hE
        have HH : Hid (Hv w T (prA (.slice (some ⟨g2, 0, none⟩) (m + 1) cap) (offS i (l.take (k + 1))) :: blkA r 56 #[.int .i64 s, .int .i64 b, .slice (some ⟨g, 0, none⟩) n c] :: prA (.slice (some ⟨g, 0, none⟩) n c) l :: R) W2) := by rw [HT.out, hm]; exact hH
        have v1 := (hH.blk (i := 1) rfl).cell 2
        clear hE hH hm he HI hr0
        go_wp2_with (at_builtin; refine wpList_append_run rfl (.tmp 26) (.tmp 34) _ rfl HE.out ?_)
        go_roundw
        case rel => exact ⟨k + 1, by omega, by go_num, HH⟩
        case measure => simp [vInt]; omega
    · obtain rfl : k = n := by omega
      have h1 : Hv w T (prA u5 (offS i l) :: blkA r 56 #[.int .i64 s, .int .i64 b, .slice A k c] :: prA (.slice A k c) l :: R) wr := by
        have := HI.out
        rw [HN.out, List.take_length] at this
        rw [HN.out]
        exact this
      clear HI
      obtain ⟨m, hm⟩ : ∃ m, m = (offS i l).length := ⟨_, rfl⟩
      have hr0 := h1.row (i := 0) rfl
      rw [← hm] at hr0
      obtain ⟨A0, c0', rfl⟩ := row_form hr0
      have hz := (h1.blk (i := 1) rfl).frozen 2
      have h2 : Hv w T (refA r s b (offS i l) :: R) (wr.setCell ⟨r, 2, none⟩ (.slice A0 m c0')) := by
        have h3 := ((h1.perm (List.Perm.swap ..)).set 2 (.slice A0 m c0'))
        exact ref_close (((h3.perm ((List.Perm.swap ..).cons _)).perm (List.Perm.swap ..)).tail)
      have H2 := Lib.hid h2
      clear h1 h2 hr0 hm
      obtain ⟨T2, hT2, _⟩ := H2.out.all
      have HT2 := Lib.hid hT2
      clear hT2
      go_wp2_with fail
      refine (there_any i HT2).mono ?_
      rintro e w2 ⟨rfl, rfl⟩
      go_wp2
      go_ret
      exact ⟨rfl, H2.out⟩
theorem rput_no1 (i x : Int) (hb : Hid (thereB s i = false)) (h : Hid (Sep (refA r s b l :: R) w T)) : Calls Try.prog 25 #[.pointer (some ⟨r, 0, none⟩), .int .i64 i, .int .i64 x] w fun e w' => e = .returned (.bool false) ∧ w = w' := by
  go_enter Try.func25, Try.ntmps25
  go_wp2_with fail
  refine (there_any i h).mono ?_
  rintro e w2 ⟨rfl, rfl⟩
  rw [hb.out]
  go_wp2
  go_ret
  exact ⟨rfl, rfl⟩
theorem rput_no2 (i x : Int) (ht : Hid (thereB s i = true)) (hb : Hid (x < -1 ∨ b ≤ x)) (h : Hid (Sep (refA r s b l :: R) w T)) : Calls Try.prog 25 #[.pointer (some ⟨r, 0, none⟩), .int .i64 i, .int .i64 x] w fun e w' => e = .returned (.bool false) ∧ w = w' := by
  obtain ⟨A, c, _, k1, _, _, _⟩ := ref_cells (Hv.start h.out)
  have hb' := hb.out
  by_cases h1 : x < -1
  · have d1 : decide (x < -1) = true := decide_eq_true h1
    clear hb hb'
    go_enter Try.func25, Try.ntmps25
    go_wp2_with fail
    refine (there_any i h).mono ?_
    rintro e w2 ⟨rfl, rfl⟩
    rw [ht.out]
    go_wp2
    go_ret
    exact ⟨rfl, rfl⟩
  · have d1 : decide (x < -1) = false := decide_eq_false h1
    have d2 : decide (b ≤ x) = true := decide_eq_true (by omega)
    clear hb hb'
    go_enter Try.func25, Try.ntmps25
    go_wp2_with fail
    refine (there_any i h).mono ?_
    rintro e w2 ⟨rfl, rfl⟩
    rw [ht.out]
    go_wp2
    go_ret
    exact ⟨rfl, rfl⟩
set_option maxRecDepth 100000 in
set_option maxHeartbeats 3200000 in
theorem rput_had (i x : Int) (hlen : Hid (l.length ≤ 1000000)) (ht : Hid (thereB s i = true)) (hx : Hid (0 ≤ x ∧ x < b)) (hh : Hid ((i, -1) ∈ l ∨ (i, x) ∈ l)) (h : Hid (Sep (refA r s b l :: R) w T)) : Calls Try.prog 25 #[.pointer (some ⟨r, 0, none⟩), .int .i64 i, .int .i64 x] w fun e w' => e = .returned (.bool true) ∧ w = w' := by
  obtain ⟨A, c, _, k1, _, _, _⟩ := ref_cells (Hv.start h.out)
  have hx' := hx.out
  have d1 : decide (x < -1) = false := decide_eq_false (by omega)
  have d2 : decide (b ≤ x) = false := decide_eq_false (by omega)
  have d3 : (x == -1) = false := by rw [beq_eq_false_iff_ne]; omega
  have d4 : ¬ x = -1 := by omega
  have HL := hlen
  clear hx hx' hlen
  go_enter Try.func25, Try.ntmps25
  go_wp2_with fail
  refine (there_any i h).mono ?_
  rintro e w2 ⟨rfl, rfl⟩
  rw [ht.out]
  go_wp2_with fail
  refine (rhas_any i (-1) HL.out h).mono ?_
  rintro e w2 ⟨rfl, rfl⟩
  cases hm : decide ((i, (-1 : Int)) ∈ l)
  · have hm2 : Hid (decide ((i, x) ∈ l) = true) := decide_eq_true (hh.out.resolve_left (of_decide_eq_false hm))
    go_wp2_with fail
    refine (rhas_any i x HL.out h).mono ?_
    rintro e w2 ⟨rfl, rfl⟩
    rw [hm2.out]
    go_wp2
    go_ret
    exact ⟨rfl, rfl⟩
  · go_wp2
    go_ret
    exact ⟨rfl, rfl⟩
set_option maxRecDepth 100000 in
set_option maxHeartbeats 3200000 in
theorem rput_new (i x : Int) (hlen : Hid (l.length ≤ 1000000)) (ht : Hid (thereB s i = true)) (hx : Hid (0 ≤ x ∧ x < b)) (hh : Hid (¬ (i, -1) ∈ l ∧ ¬ (i, x) ∈ l)) (h : Hid (Sep (refA r s b l :: R) w T)) : Calls Try.prog 25 #[.pointer (some ⟨r, 0, none⟩), .int .i64 i, .int .i64 x] w fun e w' => e = .returned (.bool true) ∧ Hv w T (refA r s b (l ++ [(i, x)]) :: R) w' := by
  obtain ⟨A, c, _, k1, k2, _, hv⟩ := ref_cells (Hv.start h.out)
  obtain ⟨g2, cap, W2, hE, hH⟩ := app_pr (hv.perm (List.Perm.swap ..)) 22 (by have := hlen.out; omega) (i, x)
  have hz := (hH.blk (i := 1) rfl).frozen 2
  have hz2 := (hH.blk (i := 1) rfl).cell 2
  have h3 := ((hH.perm (List.Perm.swap ..)).set 2 (.slice (some ⟨g2, 0, none⟩) (l.length + 1) cap))
  have H3 := Lib.hid (ref_close h3)
  have HE := Lib.hid hE
  have hx' := hx.out
  have d1 : decide (x < -1) = false := decide_eq_false (by omega)
  have d2 : decide (b ≤ x) = false := decide_eq_false (by omega)
  have d3 : (x == -1) = false := by rw [beq_eq_false_iff_ne]; omega
  have d4 : ¬ x = -1 := by omega
  have HL := hlen
  have hm1 : Hid (decide ((i, (-1 : Int)) ∈ l) = false) := decide_eq_false hh.out.1
  have hm2 : Hid (decide ((i, x) ∈ l) = false) := decide_eq_false hh.out.2
  clear hx hx' hlen hE hH h3 hv hh
  go_enter Try.func25, Try.ntmps25
  go_wp2_with fail
  refine (there_any i h).mono ?_
  rintro e w2 ⟨rfl, rfl⟩
  rw [ht.out]
  go_wp2_with fail
  refine (rhas_any i (-1) HL.out h).mono ?_
  rintro e w2 ⟨rfl, rfl⟩
  rw [hm1.out]
  go_wp2_with fail
  refine (rhas_any i x HL.out h).mono ?_
  rintro e w2 ⟨rfl, rfl⟩
  rw [hm2.out]
  go_wp2_with (at_builtin; refine wpList_append_run rfl (.tmp 43) (.tmp 47) _ rfl HE.out ?_)
  go_ret
  exact ⟨rfl, H3.out⟩
theorem offS_not (i x : Int) : ¬ (i, x) ∈ offS i l := by
  unfold offS
  simp
set_option maxRecDepth 100000 in
set_option maxHeartbeats 3200000 in
theorem rput_any (i : Int) (hlen : Hid (l.length ≤ 1000000)) (ht : Hid (thereB s i = true)) (hx : Hid (0 ≤ b)) (h : Hid (Sep (refA r s b l :: R) w T)) : Calls Try.prog 25 #[.pointer (some ⟨r, 0, none⟩), .int .i64 i, .int .i64 (-1)] w fun e w' => e = .returned (.bool true) ∧ Hv w T (refA r s b (offS i l ++ [(i, -1)]) :: R) w' := by
  obtain ⟨A, c, _, k1, k2, _, hv⟩ := ref_cells (Hv.start h.out)
  have d2 : decide (b ≤ -1) = false := decide_eq_false (by have := hx.out; omega)
  have HL : Hid ((offS i l).length ≤ 1000000) := Nat.le_trans (List.length_filter_le _ _) hlen.out
  have hm1 : Hid (decide ((i, (-1 : Int)) ∈ offS i l) = false) := decide_eq_false (offS_not i (-1))
  obtain ⟨l2, hl2⟩ : ∃ l2, l2 = offS i l := ⟨_, rfl⟩
  have HL2 : Hid (l2 = offS i l) := hl2
  rw [← hl2] at HL hm1
  rw [← hl2]
  clear hx hv k2 hl2
  go_enter Try.func25, Try.ntmps25
  go_wp2_with fail
  refine (there_any i h).mono ?_
  rintro e w2 ⟨rfl, rfl⟩
  rw [ht.out]
  go_wp2_with fail
  refine (rscrub_any i hlen.out h).mono ?_
  rintro e w2 ⟨rfl, hv2⟩
  rw [ht.out]
  clear k1
  rw [← HL2.out] at hv2
  obtain ⟨T2, hT2, hJ⟩ := hv2.all
  have HT2 := Lib.hid hT2
  have HJ := Lib.hid hJ
  obtain ⟨A, c, _, _, k2, _, hv⟩ := ref_cells (Hv.start HT2.out)
  obtain ⟨g2, cap, W2, hE, hH⟩ := app_pr (hv.perm (List.Perm.swap ..)) 22 (by have := HL.out; omega) (i, -1)
  have hz := (hH.blk (i := 1) rfl).frozen 2
  have hz2 := (hH.blk (i := 1) rfl).cell 2
  have h3 := ((hH.perm (List.Perm.swap ..)).set 2 (.slice (some ⟨g2, 0, none⟩) (l2.length + 1) cap))
  have H3 := Lib.hid (ref_close h3)
  have HE := Lib.hid hE
  clear hE hH h3 hv hv2 hT2 hJ
  go_wp2_with fail
  refine (rhas_any i (-1) HL.out HT2).mono ?_
  rintro e w3 ⟨rfl, rfl⟩
  rw [hm1.out]
  go_wp2_with fail
  refine (rhas_any i (-1) HL.out HT2).mono ?_
  rintro e w3 ⟨rfl, rfl⟩
  rw [hm1.out]
  go_wp2_with (at_builtin; refine wpList_append_run rfl (.tmp 43) (.tmp 47) _ rfl HE.out ?_)
  go_ret
  exact ⟨rfl, HJ.out _ _ H3.out⟩
end
end Go.Proofs.Ytieojomabmippaa
