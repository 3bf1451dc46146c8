/- The walk of Drain of a ring of ints. -/
import Derived.Test.YtpfhmkfeneejeaaRingMore
namespace Go.Proofs.Ytpfhmkfeneejeaa.RInt
open Go.RowKit Go.LawEnd Go.Conc

theorem infoRow : (Try.prog.info? 3).map (fun i => (i.zero, i.size, i.bytes)) = some (some (.int .i64 0), 1, 8) := by kernel_rfl

/-- what Drain leaves -/
def Drained (w : World) (p c cap : Nat) (cl : Bool) (l : List Int) (e : Ending) (w' : World) : Prop :=
  ∃ v, e = .returned v ∧ w'.ownsRow w.heap.size 3 1 v l.length (ints l) ∧ Ring 76 w' p c cap [] cl ∧ Ch (fun k => k = c) w w'

structure DrainInv (w wr : World) (p c cap : Nat) (cl : Bool) (l : List Int) (k : Nat) (v : Value) : Prop where
  own : wr.ownsRow w.heap.size 3 1 v k (ints (l.take k))
  ring : Ring 76 wr p c cap (ints (l.drop k)) cl
  ch : Ch (fun j => j = c) w wr

theorem ints_snoc (l : List Int) (x : Int) : ints (l ++ [x]) = ints l ++ [.int .i64 x] := by simp [ints]
theorem own_not_chan {w : World} {B k p c cap : Nat} {v : Value} {cl : Bool} {xs q : List Value} (h : w.ownsRow B 3 1 v k xs) (hr : Ring 76 w p c cap q cl) : v.ownBlock = none ∨ v.ownBlock ≠ some c := by
  rcases h.2 with ⟨rfl, _⟩ | ⟨g, cp, cur, rfl, _, hh, _⟩
  · exact .inl rfl
  · right
    intro e
    obtain ⟨s, r, hc⟩ := hr.chan
    have : g = c := by simpa [Value.ownBlock] using e
    subst this
    rw [hh] at hc
    cases hc
theorem own_not_head {w : World} {B k p c cap : Nat} {v : Value} {cl : Bool} {xs q : List Value} (h : w.ownsRow B 3 1 v k xs) (hr : Ring 76 w p c cap q cl) : v.ownBlock = none ∨ v.ownBlock ≠ some p := by
  rcases h.2 with ⟨rfl, _⟩ | ⟨g, cp, cur, rfl, _, hh, _⟩
  · exact .inl rfl
  · right
    intro e
    have : g = p := by simpa [Value.ownBlock] using e
    subst this
    exact Blk.ne_ (t := 3) hh hr.head (by decide) rfl

set_option maxHeartbeats 800000 in
theorem drain_any (p c cap : Nat) (cl : Bool) (l : List Int) (w : World) (hl : l.length ≤ 1024) (hr : Hid (Ring 76 w p c cap (ints l) cl)) :
    Calls Try.prog 24 #[.pointer (some ⟨p, 0, none⟩)] w (Drained w p c cap cl l) := by
  obtain ⟨i0, hi, hz0, hz1, hz2⟩ := info_parts infoRow
  go_enter Try.func24, Try.ntmps24
  go_wp2_with fail
  go_step3
  go_wp2_with fail
  go_step3
  go_wp2_with fail
  go_loopg [3, 4, 5] l.length (fun g v _ _ wr => ∃ k : Nat, k + g = l.length ∧ DrainInv w wr p c cap cl l k v)
  case atStart => exact ⟨0, by omega, ⟨World.ownsRow_nil _ _ _ _, by simpa using hr.out, Ch.refl _ _⟩⟩
  case round =>
    obtain ⟨k, hkg, HI⟩ := hrel
    have HO := HI.own
    have HR := Lib.hid HI.ring
    have HC := Lib.hid HI.ch
    clear HI
    cases gk with
    | zero =>
      have hd : l.drop k = [] := List.drop_eq_nil_of_le (by omega)
      have hkl : l.take k = l := List.take_of_length_le (by omega)
      have HK : Hid (k = l.length) := by show _ = _; omega
      rw [hd] at HR
      rw [hkl] at HO
      have HO' := Lib.hid HO
      clear hd hkl HO hkg
      go_wp2_with fail
      refine (take_none HR).mono ?_
      rintro e w' ⟨rfl, rfl⟩
      go_wp2
      try rw [Exit.noGoto_ret]
      go_ret
      exact ⟨_, rfl, by have := HO'.out; rw [HK.out] at this; exact this, HR.out, HC.out⟩
    | succ g =>
      have hlt : k < l.length := by omega
      obtain ⟨x, hx⟩ : ∃ x, l[k] = x := ⟨_, rfl⟩
      have hd : l.drop k = x :: l.drop (k + 1) := by rw [← hx]; exact List.drop_eq_getElem_cons hlt
      have ht : l.take (k + 1) = l.take k ++ [x] := by rw [← hx]; exact List.take_succ_eq_append_getElem hlt
      have HT := Lib.hid ht
      rw [hd] at HR
      clear hd ht hx
      go_wp2_with fail
      refine (take_some x (q := ints (l.drop (k + 1))) HR).mono ?_
      rintro e w1 ⟨rfl, hr1, hc1, hs1⟩
      have HS := Lib.hid hs1
      have HO1 : w1.ownsRow w.heap.size 3 1 u3 k (ints (l.take k)) := by
        exact HO.kept (Ch.toGrown hc1) (own_not_chan HO HR.out)
      have HR1 := Lib.hid hr1
      have HC1 := Lib.hid (HC.out.trans hc1)
      clear hc1 hr1 hs1 HO
      go_wp2_with (at_builtin; go_must (refine wpList_append_lies _ rfl (.tmp 13) (.tmp 15) 42 rfl w.heap.size 3 i0 (.int .i64 0) 1 8 Try.underlying42 hi hz0 hz1 hz2 (by rfl) (by decide) _ _ _ (by rfl) (HO1.alloc _) ⟨w1.heap.size, 0, none⟩ 1 1 [.int .i64 x] (by rfl) (by rfl) (cell_one_new _ _ _) (by intro u hu; simp at hu; subst hu; rfl) (by decide) (by unfold maxLen; omega) (by omega) (by have := HC1.out.size; simp; omega) (w1.heap.size + 1) (by simp) ?_))
      intro g2 cap2 w2 ho2 hg2 hat2 hlt2
      have N1 := own_not_chan HO1 HR1.out
      have N2 := own_not_head HO1 HR1.out
      have HI2 : DrainInv w w2 p c cap cl l (k + 1) (.slice (some ⟨g2, 0, none⟩) (k + 1) cap2) := by
        refine ⟨?_, (HR1.out.below ((Below.refl w1.heap.size w1).alloc (Nat.le_refl _) (.cells #[.int .i64 x] 3)) HR1.out.plt HR1.out.clt).ch (Ch.grownBy hg2) (fun h => ?_) (fun h => ?_), ((HC1.out.alloc (.cells #[.int .i64 x] 3)).grown hg2 (fun j hj => .inr (HO1.lt j hj).1))⟩
        · rw [HT.out, ints_snoc]; exact ho2
        · rcases N2 with n | n
          · rw [n] at h; cases h
          · exact n h
        · rcases N1 with n | n
          · rw [n] at h; cases h
          · exact n h
      have HI3 := Lib.hid HI2
      clear HI2 N1 N2 ho2 hg2 hat2 HO1 HC1 HR1 HC HS HR
      go_wp2
      go_roundg g
      case measure => omega
      case rel => exact ⟨k + 1, by omega, HI3.out⟩
end Go.Proofs.Ytpfhmkfeneejeaa.RInt
