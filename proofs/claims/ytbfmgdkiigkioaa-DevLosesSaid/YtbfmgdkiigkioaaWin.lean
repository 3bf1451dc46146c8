/- A row of the call's own that has slid ('l = l[1:]'): one-cell elements, at any place of its block; appends to it; over any program. -/
import Derived.ArgAppend
import Derived.Laws.OwnMore
import Derived.Test.YtbfmgdkiigkioaaRd
import Derived.Test.YtbfmgdkiigkioaaOwns
namespace Go.LawEnd
open Go.RowKit

def Win (w : World) (B : Nat) (e : TypeId) (v : Value) (n : Nat) (xs : List Value) : Prop :=
  xs.length = n ∧ ((v = .slice none 0 0 ∧ n = 0) ∨
    ∃ g off cap cur, v = .slice (some ⟨g, off, none⟩) n cap ∧ B ≤ g ∧ w.heap[g]? = some (.cells cur e (0, 0)) ∧ n ≤ cap ∧ off + cap ≤ cur.size ∧ cap ≤ maxLen ∧ ∀ j (h : j < xs.length), cur[off + j]? = some xs[j])

section
variable {w w' : World} {B n : Nat} {e : TypeId} {v : Value} {xs : List Value}
theorem Win.nil_ (w : World) (B : Nat) (e : TypeId) : Win w B e (.slice none 0 0) 0 [] := ⟨rfl, .inl ⟨rfl, rfl⟩⟩
theorem Win.of_own (h : w.ownsRow B e 1 v n xs) : Win w B e v n xs := by
  refine ⟨by simpa using h.1, ?_⟩
  rcases h.2 with h0 | ⟨g, cap, cur, rfl, hb, hg, hn, hc, hs, ht⟩
  · exact .inl h0
  · refine .inr ⟨g, 0, cap, cur, rfl, hb, hg, hn, by simp [hs], hc, fun j hj => ?_⟩
    have : xs[j]? = cur.toList[j]? := by rw [← ht, List.getElem?_take, if_pos (by have := h.1; omega)]
    rw [List.getElem?_eq_getElem hj] at this
    rw [Nat.zero_add, this]; simp
theorem Win.form (h : Win w B e v n xs) : ∃ A c, v = .slice A n c := by
  rcases h.2 with ⟨rfl, rfl⟩ | ⟨g, off, cap, cur, rfl, _⟩
  · exact ⟨_, _, rfl⟩
  · exact ⟨_, _, rfl⟩
theorem Win.lt (h : Win w B e v n xs) : ∀ b, v.ownBlock = some b → B ≤ b ∧ b < w.heap.size := by
  intro b hb
  rcases h.2 with ⟨rfl, _⟩ | ⟨g, off, cap, cur, rfl, hB, hg, _⟩
  · cases hb
  · have : g = b := by simpa [Value.ownBlock] using hb
    subst this
    exact ⟨hB, lt_of_obj hg⟩
theorem Win.kept (h : Win w B e v n xs) (hk : ∀ b, v.ownBlock = some b → w'.heap[b]? = w.heap[b]?) : Win w' B e v n xs := by
  refine ⟨h.1, ?_⟩
  rcases h.2 with h0 | ⟨g, off, cap, cur, rfl, hB, hg, r⟩
  · exact .inl h0
  · exact .inr ⟨g, off, cap, cur, rfl, hB, (hk g rfl).trans hg, r⟩
theorem Win.ch {S : Nat → Prop} (h : Win w B e v n xs) (hc : Ch S w w') (hn : ∀ b, v.ownBlock = some b → ¬ S b) : Win w' B e v n xs :=
  h.kept fun b hb => hc.block b (h.lt b hb).2 (hn b hb)
theorem Win.grown {row : Option Nat} (h : Win w B e v n xs) (hg : w.grownBy w' row) (hn : v.ownBlock = none ∨ v.ownBlock ≠ row) : Win w' B e v n xs :=
  h.kept fun b hb => hg.block b (h.lt b hb).2 (by rw [hb] at hn; simpa using hn)
theorem Win.below {C : Nat} (h : Win w B e v n xs) (hb : Below C w w') (hC : w.heap.size ≤ C) : Win w' B e v n xs :=
  h.kept fun b hb' => hb.block b (by have := (h.lt b hb').2; omega)
theorem Win.alloc (h : Win w B e v n xs) (o : Obj) : Win (w.alloc o) B e v n xs := h.below ((Below.refl _ w).alloc (Nat.le_refl _) o) (Nat.le_refl _)
theorem Win.rd (h : Win w B e v n xs) : Rd w w.heap.size 1 v n xs := by
  refine ⟨by simpa using h.1, ?_⟩
  rcases h.2 with ⟨rfl, rfl⟩ | ⟨g, off, cap, cur, rfl, _, hg, hn, _, _, hr⟩
  · exact ⟨none, 0, rfl, Nat.le_refl _, fun h => by omega⟩
  · exact ⟨_, cap, rfl, hn, fun _ => ⟨g, off, rfl, lt_of_obj hg, fun j hj => by rw [cell_of_row w g _ cur e (0, 0) hg]; exact hr j hj⟩⟩
/-- a row that is not empty: its place, its first cell, and the row behind it -/
theorem Win.cons_ {x : Value} (h : Win w B e v (n + 1) (x :: xs)) : ∃ g off cap, v = .slice (some ⟨g, off, none⟩) (n + 1) (cap + 1) ∧ n ≤ cap ∧ g < w.heap.size ∧ B ≤ g ∧ w.cell? ⟨g, off, none⟩ = some x ∧ Win w B e (.slice (some ⟨g, off + 1, none⟩) n cap) n xs := by
  rcases h.2 with ⟨_, h0⟩ | ⟨g, off, cap, cur, rfl, hB, hg, hn, hs, hm, hr⟩
  · omega
  · obtain ⟨c, rfl⟩ : ∃ c, cap = c + 1 := ⟨cap - 1, by omega⟩
    refine ⟨g, off, c, rfl, by omega, lt_of_obj hg, hB, ?_, by have := h.1; simp at this; omega, .inr ⟨g, off + 1, c, cur, rfl, hB, hg, by omega, by omega, by omega, fun j hj => ?_⟩⟩
    · rw [cell_of_row w g _ cur e (0, 0) hg]; exact hr 0 (by simp)
    · have := hr (j + 1) (by simp; omega)
      rw [show off + 1 + j = off + (j + 1) by omega, this]; simp

theorem Win.obj {e : TypeId} {m : Nat} {v : Value} {xs : List Value} (h : Win w B e v m xs) {b : Nat} (hb : v.ownBlock = some b) : ∃ cur, w.heap[b]? = some (.cells cur e (0, 0)) := by
  rcases h.2 with ⟨rfl, _⟩ | ⟨g, off, cap, cur, rfl, _, hg, _⟩
  · cases hb
  · have : g = b := by simpa [Value.ownBlock] using hb
    subst this
    exact ⟨cur, hg⟩
theorem Win.ne_blk {e t : TypeId} {m g : Nat} {v : Value} {xs : List Value} {cs : Array Value} (h : Win w B e v m xs) (hk : Blk w g t cs) (ht : e ≠ t) : v.ownBlock ≠ some g := by
  intro hb
  obtain ⟨cur, hc⟩ := h.obj hb
  unfold Blk at hk
  rw [hk] at hc
  injection hc with hc
  injection hc with _ hc
  exact ht hc.symm

theorem heap_setCells_same (b : Nat) (t : TypeId) : ∀ (vs : List Value) (o : Nat) (w : World) (cs : Array Value), w.heap[b]? = some (.cells cs t (0, 0)) → o + vs.length ≤ cs.size →
    ∃ cs', (w.setCells b o vs).heap[b]? = some (.cells cs' t (0, 0)) ∧ cs'.size = cs.size ∧ (∀ j, j < vs.length → cs'[o + j]? = vs[j]?) ∧ ∀ j, (j < o ∨ o + vs.length ≤ j) → cs'[j]? = cs[j]?
  | [], o, w, cs, h, _ => ⟨cs, h, rfl, fun j hj => by simp at hj, fun _ _ => rfl⟩
  | v :: r, o, w, cs, h, hl => by
    simp only [List.length_cons] at hl
    have h1 := heap_setCell_same w b o cs t v h
    obtain ⟨cs', a1, a2, a3, a4⟩ := heap_setCells_same b t r (o + 1) (w.setCell ⟨b, o, none⟩ v) _ h1 (by simp; omega)
    refine ⟨cs', a1, by simpa using a2, fun j hj => ?_, fun j hj => ?_⟩
    · cases j with
      | zero =>
        rw [Nat.add_zero, a4 o (.inl (by omega))]
        simp only [List.getElem?_cons_zero]
        rw [Array.getElem?_setIfInBounds_self_of_lt (by omega)]
      | succ j =>
        simp only [List.length_cons] at hj
        rw [show o + (j + 1) = o + 1 + j by omega, a3 j (by omega)]; simp
    · simp only [List.length_cons] at hj
      rw [a4 j (by omega)]
      rw [Array.getElem?_setIfInBounds_ne (by omega)]
theorem heap_setCells_other (b k : Nat) (hk : k ≠ b) : ∀ (vs : List Value) (o : Nat) (w : World), (w.setCells b o vs).heap[k]? = w.heap[k]?
  | [], _, _ => rfl
  | v :: r, o, w => (heap_setCells_other b k hk r (o + 1) _).trans (heap_setCell_other w ⟨b, o, none⟩ k v (fun e => hk e))
theorem setCells_rest (b : Nat) : ∀ (vs : List Value) (o : Nat) (w : World), (w.setCells b o vs).os = w.os ∧ (w.setCells b o vs).tape = w.tape ∧ (w.setCells b o vs).output = w.output ∧ (w.setCells b o vs).heap.size = w.heap.size
  | [], _, _ => ⟨rfl, rfl, rfl, rfl⟩
  | v :: r, o, w => by
    obtain ⟨a, b', c, d⟩ := setCells_rest b r (o + 1) (w.setCell ⟨b, o, none⟩ v)
    exact ⟨a, b', c, by rw [World.setCells, d]; simp [World.setCell]⟩
end

section
variable {P : Program} {w : World}
theorem run_append_win (t ty : TypeId) (B : Nat) (e : TypeId) (i : TypeInfo) (z : Value) (bytes : Nat) (ht : P.underlying t = some (.slice e)) (hi : P.info? e = some i) (hz : i.zero = some z)
    (hsize : i.size = 1) (hby : i.bytes = bytes) (hzs : z.cells.size = 1)
    (v : Value) (n : Nat) (xs : List Value) (hown : Win w B e v n xs) (ad : Addr) (m c : Nat) (news : List Value) (hl : news.length = m) (hnews : ∀ j u, news[j]? = some u → w.cell? (ad.add j) = some u)
    (h1 : ∀ u ∈ news, u.oneCell' = true) (h63 : n + m ≤ maxLen) (hbytes : (n + m) * bytes ≤ 140737488355328) (hbase : B ≤ w.heap.size) :
    ∃ v' w', (Builtin.append_ #[t, t] ty #[v, .slice (some ad) m c]).run P w = .ok v' w' ∧ Win w' B e v' (n + m) (xs ++ news) ∧ w.grownBy w' v.ownBlock ∧ (v'.ownBlock = v.ownBlock ∨ ∃ H, w.heap.size ≤ H ∧ v'.ownBlock = some H) := by
  rcases hown.2 with ⟨rfl, rfl⟩ | ⟨g, off, cap, cur, rfl, hB, hg, hn, hs, hm, hr⟩
  · obtain rfl : xs = [] := List.eq_nil_of_length_eq_zero hown.1
    obtain ⟨v', w', h1', h2, h3, _, h5⟩ := run_append_own_at (P := P) w B t ty e i z 1 bytes ht hi hz hsize hby hzs (by omega) (.slice none 0 0) 0 [] (World.ownsRow_nil w _ e 1) ad m c news (by omega) hnews h1 h63 hbytes hbase
    exact ⟨v', w', h1', Win.of_own h2, h3, h5.imp id fun h => ⟨_, Nat.le_refl _, h⟩⟩
  · by_cases hroom : n + m ≤ cap
    · have hrun := run_append_room_cells (P := P) w t ty e i ht hi g off n cap ad m c news (by rw [hsize]; omega) hnews h1 hroom
        (fun j hj => by rw [hsize, cell_of_row w g _ cur e (0, 0) hg, Array.getElem?_eq_getElem (by omega)]; rfl)
        (fun j hj => frozen_of_row w g _ cur e hg)
      rw [hsize, Nat.mul_one] at hrun
      obtain ⟨cs', a1, a2, a3, a4⟩ := heap_setCells_same g e news (off + n) w cur hg (by omega)
      obtain ⟨b1, b2, b3, b4⟩ := setCells_rest g news (off + n) w
      refine ⟨_, _, hrun, ⟨by have := hown.1; simp; omega, .inr ⟨g, off, cap, cs', rfl, hB, a1, hroom, by omega, hm, fun j hj => ?_⟩⟩, ⟨b1, b2, b3, Nat.le_of_eq b4.symm, fun k _ hk => heap_setCells_other g k (fun e => hk (by simp [Value.ownBlock, e])) _ _ _⟩, .inl rfl⟩
      have hx := hown.1
      by_cases hj2 : j < n
      · rw [a4 _ (.inl (by omega)), hr j (by omega), List.getElem_append_left (by omega)]
      · have hj' : j < xs.length + news.length := by simpa using hj
        rw [show off + j = off + n + (j - n) by omega, a3 (j - n) (by omega), List.getElem?_eq_getElem (by omega), List.getElem_append_right (by omega)]
        congr 2
        omega
    · obtain ⟨v', w', hrun, r1, r2⟩ := run_append_arg_grows (P := P) w t ty e i z 1 bytes ht hi hz hsize hby hzs (by omega) ⟨g, off, none⟩ n cap xs (by have := hown.1; omega)
        (fun j u hj => by
          have hlt : j < xs.length := (List.getElem?_eq_some_iff.1 hj).1
          rw [Addr.add_lit, cell_of_row w g _ cur e (0, 0) hg, hr j hlt, ← hj, List.getElem?_eq_getElem hlt]) ad m c news (by omega) hnews (by omega) h63 hbytes
      have hf := r1
      rcases r1.2 with ⟨rfl, h0⟩ | ⟨g', cap', cur', rfl, hb', hg', rest⟩
      · omega
      · have hlt := lt_of_obj hg'
        refine ⟨_, w', hrun, Win.of_own ⟨r1.1, .inr ⟨g', cap', cur', rfl, by omega, hg', rest⟩⟩, ⟨r2.os, r2.tape, r2.output, r2.size, fun k hk _ => r2.block k hk (by simp)⟩, .inr ⟨g', hb', rfl⟩⟩

theorem wp_append_win {o : Oper} {a : Act} {K : Act → World → Prop} {Q : Exit → Act → World → Prop} (s x : Operand) (t : TypeId)
    (ho : o.op = .call { callee := .builtin .append, args := #[s, x], argTypes := #[t, t] })
    (B : Nat) (e : TypeId) (i : TypeInfo) (z : Value) (bytes : Nat) (ht : P.underlying t = some (.slice e)) (hi : P.info? e = some i) (hz : i.zero = some z)
    (hsize : i.size = 1) (hby : i.bytes = bytes) (hzs : z.cells.size = 1)
    (v : Value) (n : Nat) (xs : List Value) (hs : a.eval s = v) (hown : Win w B e v n xs) (ad : Addr) (m c : Nat) (news : List Value) (hx : a.eval x = .slice (some ad) m c) (hl : news.length = m) (hnews : ∀ j u, news[j]? = some u → w.cell? (ad.add j) = some u)
    (h1 : ∀ u ∈ news, u.oneCell' = true) (h63 : n + m ≤ maxLen) (hbytes : (n + m) * bytes ≤ 140737488355328) (hbase : B ≤ w.heap.size)
    (h : ∀ v' w', Win w' B e v' (n + m) (xs ++ news) → w.grownBy w' v.ownBlock → (v'.ownBlock = v.ownBlock ∨ ∃ H, w.heap.size ≤ H ∧ v'.ownBlock = some H) → K (a.put o.dst v') w') : o.wp P a w K Q := by
  obtain ⟨v', w', hr, h2, h3, h4⟩ := run_append_win (P := P) (w := w) t o.type B e i z bytes ht hi hz hsize hby hzs v n xs hown ad m c news hl hnews h1 h63 hbytes hbase
  unfold Oper.wp execOp
  simp only [ho, resolve, invoke, builtin, Sem.run_bind, Sem.run_pure, Result.andThen_ok, List.map_toArray, List.map_cons, List.map_nil, hs, hx, hr]
  exact h v' w' h2 h3 h4

theorem wpList_append_win {ops : Array Oper} {rest : List Oper} {o : Oper} {a : Act} {Q : Exit → Act → World → Prop} (hgd : o.guard = none) (s x : Operand) (t : TypeId)
    (ho : o.op = .call { callee := .builtin .append, args := #[s, x], argTypes := #[t, t] })
    (B : Nat) (e : TypeId) (i : TypeInfo) (z : Value) (bytes : Nat) (ht : P.underlying t = some (.slice e)) (hi : P.info? e = some i) (hz : i.zero = some z)
    (hsize : i.size = 1) (hby : i.bytes = bytes) (hzs : z.cells.size = 1)
    (v : Value) (n : Nat) (xs : List Value) (hs : a.eval s = v) (hown : Win w B e v n xs) (ad : Addr) (m c : Nat) (news : List Value) (hx : a.eval x = .slice (some ad) m c) (hl : news.length = m) (hnews : ∀ j u, news[j]? = some u → w.cell? (ad.add j) = some u)
    (h1 : ∀ u ∈ news, u.oneCell' = true) (h63 : n + m ≤ maxLen) (hbytes : (n + m) * bytes ≤ 140737488355328) (hbase : B ≤ w.heap.size)
    (h : ∀ v' w', Win w' B e v' (n + m) (xs ++ news) → w.grownBy w' v.ownBlock → (v'.ownBlock = v.ownBlock ∨ ∃ H, w.heap.size ≤ H ∧ v'.ownBlock = some H) → wpList P ops Q rest (a.put o.dst v') w') : wpList P ops Q (o :: rest) a w :=
  wpList_plain hgd fun _ hK => wp_append_win s x t ho B e i z bytes ht hi hz hsize hby hzs v n xs hs hown ad m c news hx hl hnews h1 h63 hbytes hbase fun v' w' h2 h3 h4 => hK _ _ (h v' w' h2 h3 h4)

theorem step_append_win {ops : Array Oper} {o : Oper} {a : Act} {K : Act → World → Prop} {Q : Exit → Act → World → Prop} {E : Prop} (hgd : o.guard = none) (s x : Operand) (t : TypeId)
    (ho : o.op = .call { callee := .builtin .append, args := #[s, x], argTypes := #[t, t] })
    (B : Nat) (e : TypeId) (i : TypeInfo) (z : Value) (bytes : Nat) (ht : P.underlying t = some (.slice e)) (hi : P.info? e = some i) (hz : i.zero = some z)
    (hsize : i.size = 1) (hby : i.bytes = bytes) (hzs : z.cells.size = 1)
    (v : Value) (n : Nat) (xs : List Value) (hs : a.eval s = v) (hown : Win w B e v n xs) (ad : Addr) (m c : Nat) (news : List Value) (hx : a.eval x = .slice (some ad) m c) (hl : news.length = m) (hnews : ∀ j u, news[j]? = some u → w.cell? (ad.add j) = some u)
    (h1 : ∀ u ∈ news, u.oneCell' = true) (h63 : n + m ≤ maxLen) (hbytes : (n + m) * bytes ≤ 140737488355328) (hbase : B ≤ w.heap.size)
    (h : ∀ v' w', Win w' B e v' (n + m) (xs ++ news) → w.grownBy w' v.ownBlock → (v'.ownBlock = v.ownBlock ∨ ∃ H, w.heap.size ≤ H ∧ v'.ownBlock = some H) → K (a.put o.dst v') w') :
    if Region.wanted o (yielded ops a.tmps) = true then Oper.wp P o a w K Q else E := by
  have hw : Region.wanted o (yielded ops a.tmps) = true := by simp [Region.wanted, hgd]
  rw [if_pos hw]
  exact wp_append_win s x t ho B e i z bytes ht hi hz hsize hby hzs v n xs hs hown ad m c news hx hl hnews h1 h63 hbytes hbase h
end
end Go.LawEnd
