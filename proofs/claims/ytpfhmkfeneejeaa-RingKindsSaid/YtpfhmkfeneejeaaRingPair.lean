/- The walks of a ring of pairs: things of two cells. -/
import Derived.Test.YtpfhmkfeneejeaaAwake
import Derived.Laws.ResultCell
namespace Go.Proofs.Ytpfhmkfeneejeaa.RPair
open Go.RowKit Go.LawEnd Go.Conc

theorem new_yes (n : Nat) (w : World) (h1 : 1 ≤ n) (h2 : n ≤ 1024) :
    Calls Try.prog 10 #[.int .i64 (n : Int)] w fun e w' => e = .returned (.tuple #[.pointer (some ⟨w.heap.size + 1, 0, none⟩), .int .i64 0]) ∧ Ring 67 w' (w.heap.size + 1) w.heap.size n [] false ∧ Below w.heap.size w w' ∧ w'.heap.size = w.heap.size + 2 := by
  have hmk : ∀ W : World, (Instr.makeChan 65 (.int .i64 (n : Int))).run Try.prog W = .ok (.chan (some W.heap.size)) (W.alloc (.chan n #[] false 0 0 false)) := fun W => make_chan Try.underlying65 infoPair (by decide) n (by omega) W
  have HP : Hid (∀ w' : World, w' = (w.alloc (.chan n #[] false 0 0 false)).alloc (.cells #[.chan (some w.heap.size), .bool false] 67) → Ring 67 w' (w.heap.size + 1) w.heap.size n [] false ∧ Below w.heap.size w w' ∧ w'.heap.size = w.heap.size + 2) := by
    rintro w' rfl
    refine ⟨⟨?_, 0, 0, ?_⟩, ((Below.refl _ _).alloc (Nat.le_refl _) _).alloc (by simp) _, by simp⟩
    · have := Blk.new (w.alloc (.chan n #[] false 0 0 false)) 67 #[.chan (some w.heap.size), .bool false]
      simpa using this
    · rw [Below.heap_alloc _ _ _ (by simp)]
      exact heap_alloc_new w _
  go_enter Try.func10, Try.ntmps10
  go_wp2
  go_ret2
  exact ⟨rfl, HP.out _ rfl⟩

theorem _root_.Go.LawEnd.Ch.trans' {S T : Nat → Prop} {a b c : World} (h : Ch S a b) (k : Ch T b c) (hT : ∀ i, T i → S i ∨ a.heap.size ≤ i) : Ch S a c :=
  ⟨k.os.trans h.os, k.tape.trans h.tape, k.output.trans h.output, Nat.le_trans h.size k.size, fun i hi hs => (k.block i (Nat.lt_of_lt_of_le hi h.size) (fun ht => (hT i ht).elim hs (fun h' => by omega))).trans (h.block i hi hs)⟩
theorem _root_.Go.Proofs.Ytpfhmkfeneejeaa.Ring.far_ {T : TypeId} {t : TypeId} {w : World} {g p c cap : Nat} {q cs : List Value} {cl : Bool} (hr : Ring T w p c cap q cl) (hk : Blk w g t cs.toArray) : ¬ g = c := by
  rintro rfl
  obtain ⟨s, r, hh⟩ := hr.chan
  unfold Blk at hk
  rw [hh] at hk
  cases hk

section
variable {p c cap : Nat} {q : List Value} {cl : Bool} {w : World}

set_option maxHeartbeats 400000 in
theorem put_room (x : Int) (s : ByteArray) (hr : Hid (Ring 67 w p c cap q false)) (hroom : q.length < cap) :
    Calls Try.prog 12 #[.pointer (some ⟨p, 0, none⟩), .agg #[.int .i64 x, .string s]] w fun e w' => e = .returned (.int .i64 0) ∧ Ring 67 w' p c cap (q ++ [.agg #[.int .i64 x, .string s]]) false ∧ Ch (fun k => k = c) w w' := by
  have ha := (Below.refl w.heap.size w).alloc (Nat.le_refl _) (.cells #[.int .i64 x, .string s] 29)
  have HR := Lib.hid (hr.out.below ha hr.out.plt hr.out.clt)
  have h0 := hr.out.head.cell 0
  have h1 := hr.out.head.cell 1
  have h0' := HR.out.head.cell 0
  have h1' := HR.out.head.cell 1
  simp at h0 h1
  clear ha
  go_enter Try.func12, Try.ntmps12
  go_upto_region 7 with (fail)
  obtain ⟨sn, rn, hc⟩ := HR.out.chan
  refine wp_select_send_room (v := .agg #[.int .i64 x, .string s]) (z := .agg #[.int .i64 0, .string ⟨#[]⟩]) rfl (by kernel_rfl) hc (by simpa using hroom) ?_
  go_wp2
  go_ret
  have ht := HR.out.putted hc (.agg #[.int .i64 x, .string s])
  exact ⟨rfl, ht.1, (Ch.of_below ((Below.refl w.heap.size w).alloc (Nat.le_refl _) _) (Nat.le_refl _)).trans ht.2.1⟩
set_option maxHeartbeats 800000 in
theorem take_some (x : Int) (s : ByteArray) (hr : Hid (Ring 67 w p c cap (.agg #[.int .i64 x, .string s] :: q) cl)) :
    Calls Try.prog 28 #[.pointer (some ⟨p, 0, none⟩)] w fun e w' => e = .returned (.tuple #[.agg #[.int .i64 x, .string s], .int .i64 0]) ∧ Ring 67 w' p c cap q cl ∧ Ch (fun k => k = c) w w' := by
  have ha := ((Below.refl w.heap.size w).alloc (Nat.le_refl _) (.cells #[.int .i64 0, .string ⟨#[]⟩] 29)).alloc (by simp) (.cells #[.int .i64 0, .string ⟨#[]⟩] 29)
  have HR := Lib.hid (hr.out.below ha hr.out.plt hr.out.clt)
  have HC := Lib.hid (Ch.of_below (S := fun k => k = c) ha (Nat.le_refl _))
  have h0 := hr.out.head.cell 0
  have hpl := hr.out.plt
  simp at h0
  clear ha
  go_enter Try.func28, Try.ntmps28
  go_upto_region 5 with (fail)
  obtain ⟨sn, rn, hc⟩ := HR.out.chan
  refine wp_select_recv_buf (z := .agg #[.int .i64 0, .string ⟨#[]⟩]) rfl (by kernel_rfl) hc (by simp) ?_
  have ht := HR.out.taken hc
  have hb0 : Blk ((w.alloc (.cells #[.int .i64 0, .string ⟨#[]⟩] 29)).alloc (.cells #[.int .i64 0, .string ⟨#[]⟩] 29)) w.heap.size 29 #[.int .i64 0, .string ⟨#[]⟩] := (Blk.new _ _ _).alloc _
  have hb2 := hb0.ch ht.2.1 (HR.out.far_ hb0)
  have hs2 := ht.2.2
  obtain ⟨w2, hw2⟩ : ∃ y, World.setChan ((w.alloc (.cells #[.int .i64 0, .string ⟨#[]⟩] 29)).alloc (.cells #[.int .i64 0, .string ⟨#[]⟩] 29)) c cap q.toArray cl sn (rn + 1) false = y := ⟨_, rfl⟩
  rw [hw2] at ht hb2 hs2
  simp at hs2
  have HR2 := Lib.hid ht.1
  have HC2 := Lib.hid (HC.out.trans ht.2.1)
  have c0 := hb2.cell 0
  have c1 := hb2.cell 1
  have f0 := hb2.frozen 0
  have f1 := hb2.frozen 1
  simp at c0 c1
  have HS2 := Lib.hid hs2
  clear ht hb0 hb2
  go_wp2
  refine bodyPost_ret (v := .tuple #[.agg #[.int .i64 x, .string s], .int .i64 0]) ?_ rfl ⟨rfl, ?_⟩
  · rw [results_cell_tmp rfl]; go_simp
  · have hcn : w.heap.size ≠ c := fun e => by have := HR.out.far_ ((Blk.new w 29 #[.int .i64 0, .string ⟨#[]⟩]).alloc (.cells #[.int .i64 0, .string ⟨#[]⟩] 29)); exact this e
    have hch : Ch (fun k => k = w.heap.size) w2 (((w2.setCell ⟨w.heap.size, 0, none⟩ (.int .i64 x)).setCell ⟨w.heap.size, 1, none⟩ (.string s)).alloc (.cells #[.int .i64 x, .string s] 29)) :=
      (((Ch.refl (fun k => k = w.heap.size) w2).setCell (p := ⟨w.heap.size, 0, none⟩) (.inl rfl) _).setCell (p := ⟨w.heap.size, 1, none⟩) (.inl rfl) _).alloc _
    refine ⟨HR2.out.ch hch (fun e => by omega) (fun e => hcn e.symm), HC2.out.trans' hch (fun k hk => .inr (by omega))⟩
set_option maxHeartbeats 800000 in
theorem take_none (hr : Hid (Ring 67 w p c cap [] false)) :
    Calls Try.prog 28 #[.pointer (some ⟨p, 0, none⟩)] w fun e w' => e = .returned (.tuple #[.agg #[.int .i64 0, .string ⟨#[]⟩], .int .i64 14]) ∧ Below w.heap.size w w' := by
  have ha := ((Below.refl w.heap.size w).alloc (Nat.le_refl _) (.cells #[.int .i64 0, .string ⟨#[]⟩] 29)).alloc (by simp) (.cells #[.int .i64 0, .string ⟨#[]⟩] 29)
  have HR := Lib.hid (hr.out.below ha hr.out.plt hr.out.clt)
  have HA := Lib.hid ha
  have h0 := hr.out.head.cell 0
  have hpl := hr.out.plt
  simp at h0
  clear ha
  go_enter Try.func28, Try.ntmps28
  go_upto_region 5 with (fail)
  obtain ⟨sn, rn, hc⟩ := HR.out.chan
  refine wp_select_recv_none (z := .agg #[.int .i64 0, .string ⟨#[]⟩]) rfl (by kernel_rfl) hc ?_
  go_wp2
  refine bodyPost_ret (v := .tuple #[.agg #[.int .i64 0, .string ⟨#[]⟩], .int .i64 14]) ?_ rfl ⟨rfl, ?_⟩
  · rw [results_cell_tmp rfl]; go_simp
  · exact HA.out

/-- pairs as they lie in a row -/
def row (l : List (Int × ByteArray)) : List Value := l.flatMap fun x => [.int .i64 x.1, .string x.2]
/-- and as they wait -/
def que (l : List (Int × ByteArray)) : List Value := l.map fun x => .agg #[.int .i64 x.1, .string x.2]
theorem row_length (l : List (Int × ByteArray)) : (row l).length = l.length * 2 := by
  induction l with
  | nil => rfl
  | cons x l ih => simp only [row, List.flatMap_cons, List.length_append] at ih ⊢; rw [ih]; simp; omega
theorem row_snoc (l : List (Int × ByteArray)) (i : Int) (s : ByteArray) : row (l ++ [(i, s)]) = row l ++ [.int .i64 i, .string s] := by simp [row]
theorem que_snoc (l : List (Int × ByteArray)) (i : Int) (s : ByteArray) : que (l ++ [(i, s)]) = que l ++ [.agg #[.int .i64 i, .string s]] := by simp [que]

theorem infoRow : (Try.prog.info? 29).map (fun i => (i.zero, i.size, i.bytes)) = some (some (.agg #[.int .i64 0, .string ⟨#[]⟩]), 2, 24) := by kernel_rfl

structure DrainInv (w wr : World) (p c cap : Nat) (l : List (Int × ByteArray)) (k : Nat) (v : Value) : Prop where
  own : wr.ownsRow w.heap.size 29 2 v k (row (l.take k))
  ring : Ring 67 wr p c cap (que (l.drop k)) false
  ch : Ch (fun j => j = c) w wr
theorem own_not_chan {T e : TypeId} {w : World} {B k p c cap size : Nat} {v : Value} {cl : Bool} {xs q : List Value} (h : w.ownsRow B e size v k xs) (hr : Ring T w p c cap q cl) : v.ownBlock = none ∨ v.ownBlock ≠ some c := by
  rcases h.2 with ⟨rfl, _⟩ | ⟨g, cp, cur, rfl, _, hh, _⟩
  · exact .inl rfl
  · right
    intro e
    obtain ⟨s, r, hc⟩ := hr.chan
    have : g = c := by simpa [Value.ownBlock] using e
    subst this
    rw [hh] at hc
    cases hc
theorem own_not_head {T e : TypeId} {w : World} {B k p c cap size : Nat} {v : Value} {cl : Bool} {xs q : List Value} (he : e ≠ T) (h : w.ownsRow B e size v k xs) (hr : Ring T w p c cap q cl) : v.ownBlock = none ∨ v.ownBlock ≠ some p := by
  rcases h.2 with ⟨rfl, _⟩ | ⟨g, cp, cur, rfl, _, hh, _⟩
  · exact .inl rfl
  · right
    intro e
    have : g = p := by simpa [Value.ownBlock] using e
    subst this
    exact Blk.ne_ hh hr.head he rfl
theorem ring_grown {T e : TypeId} {w1 w2 : World} {p c cap B k size : Nat} {v : Value} {cl : Bool} {xs q : List Value} (he : e ≠ T) (hr : Ring T w1 p c cap q cl) (ho : w1.ownsRow B e size v k xs) (hg : w1.grownBy w2 v.ownBlock) : Ring T w2 p c cap q cl := by
  have N1 := own_not_chan ho hr
  have N2 := own_not_head he ho hr
  refine hr.ch (Ch.grownBy hg) (fun h => ?_) (fun h => ?_)
  · rcases N2 with n | n
    · rw [n] at h; cases h
    · exact n h
  · rcases N1 with n | n
    · rw [n] at h; cases h
    · exact n h

theorem alloc2_news (w : World) (o : Obj) (cs : Array Value) (t : TypeId) : ∀ j u, cs.toList[j]? = some u → ((w.alloc o).alloc (.cells cs t)).cell? ((⟨w.heap.size + 1, 0, none⟩ : Addr).add j) = some u :=
  World.news_of_block (fr := (0, 0)) (by have := heap_alloc_new (w.alloc o) (.cells cs t); simpa using this)

set_option maxHeartbeats 1600000 in
theorem drain_any (l : List (Int × ByteArray)) (hl : l.length ≤ 1024) (hr : Hid (Ring 67 w p c cap (que l) false)) :
    Calls Try.prog 14 #[.pointer (some ⟨p, 0, none⟩)] w fun e w' => ∃ v, e = .returned v ∧ w'.ownsRow w.heap.size 29 2 v l.length (row l) ∧ Ch (fun k => k = c) w w' := by
  obtain ⟨i0, hi, hz0, hz1, hz2⟩ := info_parts infoRow
  go_enter Try.func14, Try.ntmps14
  go_wp2_with fail
  go_step3
  go_wp2_with fail
  go_step3
  go_wp2_with fail
  go_loopg [3, 4, 5] l.length (fun g v _ _ wr => ∃ k : Nat, k + g = l.length ∧ DrainInv w wr p c cap l k v)
  case atStart => exact ⟨0, by omega, ⟨World.ownsRow_nil _ _ _ _, by simpa using hr.out, Ch.refl _ _⟩⟩
  case round =>
    obtain ⟨k, hkg, HI⟩ := hrel
    have HO := HI.own
    have HR := Lib.hid HI.ring
    have HC := Lib.hid HI.ch
    clear HI
    cases gk with
    | zero =>
      have hd : l.drop k = [] := List.drop_eq_nil_of_le (by omega)
      have hkl : l.take k = l := List.take_of_length_le (by omega)
      have HK : Hid (k = l.length) := by show _ = _; omega
      rw [hd] at HR
      rw [hkl] at HO
      have HO' := Lib.hid HO
      clear hd hkl HO hkg
      go_wp2_with fail
      refine (take_none HR).mono ?_
      rintro e w1 ⟨rfl, hb1⟩
      have HO1 := Lib.hid ((HO'.out.kept (row := none) ⟨hb1.os, hb1.tape, hb1.output, hb1.size, fun i hi _ => hb1.block i hi⟩ (by cases u3.ownBlock <;> simp)).alloc (.cells #[.int .i64 0, .string ⟨#[]⟩] 29))
      have HC1 := Lib.hid ((HC.out.trans (Ch.of_below hb1 (Nat.le_refl _))).alloc (.cells #[.int .i64 0, .string ⟨#[]⟩] 29))
      clear hb1 HO'
      go_wp2
      try rw [Exit.noGoto_ret]
      go_ret
      exact ⟨_, rfl, by have := HO1.out; rw [HK.out] at this; exact this, HC1.out⟩
    | succ g =>
      have hlt : k < l.length := by omega
      obtain ⟨⟨x, s⟩, hx⟩ : ∃ x, l[k] = x := ⟨_, rfl⟩
      have hd : l.drop k = (x, s) :: l.drop (k + 1) := by rw [← hx]; exact List.drop_eq_getElem_cons hlt
      have ht : l.take (k + 1) = l.take k ++ [(x, s)] := by rw [← hx]; exact List.take_succ_eq_append_getElem hlt
      have HT := Lib.hid ht
      rw [hd] at HR
      clear hd ht hx
      go_wp2_with fail
      refine (take_some x s (q := que (l.drop (k + 1))) HR).mono ?_
      rintro e w1 ⟨rfl, hr1, hc1⟩
      have HO1 : w1.ownsRow w.heap.size 29 2 u3 k (row (l.take k)) := HO.kept (Ch.toGrown hc1) (own_not_chan HO HR.out)
      have HR1 := Lib.hid hr1
      have HC1 := Lib.hid (HC.out.trans hc1)
      clear hc1 hr1 HO
      go_wp2_with (at_builtin; go_must (refine wpList_append_lies _ rfl (.tmp 13) (.tmp 15) 36 rfl w.heap.size 29 i0 (.agg #[.int .i64 0, .string ⟨#[]⟩]) 2 24 Try.underlying36 hi hz0 hz1 hz2 (by rfl) (by decide) _ _ _ (by rfl) ((HO1.alloc _).alloc _) ⟨w1.heap.size + 1, 0, none⟩ 1 1 [.int .i64 x, .string s] (by rfl) (by rfl) (alloc2_news w1 _ #[.int .i64 x, .string s] 29) (by intro u hu; simp at hu; rcases hu with rfl | rfl <;> rfl) (by decide) (by unfold maxLen; omega) (by omega) (by have := HC1.out.size; simp; omega) (w1.heap.size + 1 + 1) (by simp) ?_))
      intro g2 cap2 w2 ho2 hg2 hat2 hlt2
      have ha2 : Below w1.heap.size w1 ((w1.alloc (.cells #[.int .i64 x, .string s] 29)).alloc (.cells #[.int .i64 x, .string s] 29)) := ((Below.refl _ w1).alloc (Nat.le_refl _) _).alloc (by simp) _
      have HI3 : Hid (DrainInv w w2 p c cap l (k + 1) (.slice (some ⟨g2, 0, none⟩) (k + 1) cap2)) := by
        refine ⟨?_, ring_grown (by decide) (HR1.out.below ha2 HR1.out.plt HR1.out.clt) ((HO1.alloc _).alloc _) hg2, (HC1.out.trans (Ch.of_below ha2 (Nat.le_refl _))).grown hg2 (fun j hj => .inr (HO1.lt j hj).1)⟩
        rw [HT.out, row_snoc]; exact ho2
      clear ho2 hg2 hat2 hlt2 ha2 HO1 HC1 HR1 HC HR HT
      go_wp2
      go_roundg g
      case measure => omega
      case rel => exact ⟨k + 1, by omega, HI3.out⟩
end
end Go.Proofs.Ytpfhmkfeneejeaa.RPair
