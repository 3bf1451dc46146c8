/- Sets as spans: the plain mathematics. -/
import Derived.Below
namespace Go.LawEnd

abbrev Sp := Int × Int
def en (y : Sp) : Int := y.1 + y.2
def inn (y : Sp) (n : Int) : Prop := y.1 ≤ n ∧ n < en y
def mem (l : List Sp) (n : Int) : Prop := ∃ y ∈ l, inn y n
/-- the spans of a set: there, none empty, rising, none begins where another one ends -/
structure OkS (l : List Sp) : Prop where
  val : ∀ y ∈ l, 0 ≤ y.1 ∧ 1 ≤ y.2 ∧ en y ≤ 1048576
  apart : l.Pairwise fun a b => en a < b.1
/-- a span that may be -/
def May (x : Sp) : Prop := 0 ≤ x.1 ∧ 0 ≤ x.2 ∧ en x ≤ 1048576
def pieceA (x y : Sp) : List Sp := if en y ≤ x.1 then [y] else if en x ≤ y.1 then [] else if y.1 < x.1 then [(y.1, x.1 - y.1)] else []
def pieceB (x y : Sp) : List Sp := if en y ≤ x.1 then [] else if en x ≤ y.1 then [y] else if en x < en y then [(en x, en y - en x)] else []
def aheadF (l : List Sp) (x : Sp) : List Sp := l.flatMap (pieceA x)
def behindF (l : List Sp) (x : Sp) : List Sp := l.flatMap (pieceB x)
def putF (l : List Sp) (x : Sp) : List Sp :=
  if x.2 = 0 then l else match l.getLast? with
    | some y => if en y = x.1 then l.dropLast ++ [(y.1, y.2 + x.2)] else l ++ [x]
    | none => [x]
def addF (l : List Sp) (x : Sp) : List Sp := (behindF l x).foldl putF (putF (aheadF l x) x)
def cutF (l : List Sp) (x : Sp) : List Sp := if 0 < x.2 then aheadF l x ++ behindF l x else l

theorem mem_nil {n : Int} : ¬ mem [] n := by rintro ⟨y, hy, _⟩; cases hy
theorem mem_append {a b : List Sp} {n : Int} : mem (a ++ b) n ↔ mem a n ∨ mem b n := by
  constructor
  · rintro ⟨y, hy, h⟩
    rcases List.mem_append.1 hy with h' | h'
    · exact .inl ⟨y, h', h⟩
    · exact .inr ⟨y, h', h⟩
  · rintro (⟨y, hy, h⟩ | ⟨y, hy, h⟩)
    · exact ⟨y, List.mem_append_left _ hy, h⟩
    · exact ⟨y, List.mem_append_right _ hy, h⟩
theorem mem_cons {y : Sp} {l : List Sp} {n : Int} : mem (y :: l) n ↔ inn y n ∨ mem l n := by
  rw [show y :: l = [y] ++ l from rfl, mem_append]
  constructor
  · rintro (⟨z, hz, h⟩ | h)
    · rw [List.mem_singleton.1 hz] at h; exact .inl h
    · exact .inr h
  · rintro (h | h)
    · exact .inl ⟨y, by simp, h⟩
    · exact .inr h
theorem mem_one {y : Sp} {n : Int} : mem [y] n ↔ inn y n := by rw [mem_cons]; simp [mem_nil]
theorem OkS.nil : OkS [] := ⟨fun y h => (by cases h), List.Pairwise.nil⟩
theorem OkS.tail {y : Sp} {l : List Sp} (h : OkS (y :: l)) : OkS l := ⟨fun z hz => h.val z (List.mem_cons_of_mem _ hz), (List.pairwise_cons.1 h.apart).2⟩
theorem OkS.append {a b : List Sp} (ha : OkS a) (hb : OkS b) (h : ∀ y ∈ a, ∀ z ∈ b, en y < z.1) : OkS (a ++ b) :=
  ⟨fun y hy => (List.mem_append.1 hy).elim (ha.val y) (hb.val y), List.pairwise_append.2 ⟨ha.apart, hb.apart, h⟩⟩
theorem OkS.left {a b : List Sp} (h : OkS (a ++ b)) : OkS a := ⟨fun y hy => h.val y (List.mem_append_left _ hy), (List.pairwise_append.1 h.apart).1⟩
theorem OkS.right {a b : List Sp} (h : OkS (a ++ b)) : OkS b := ⟨fun y hy => h.val y (List.mem_append_right _ hy), (List.pairwise_append.1 h.apart).2.1⟩
theorem OkS.between {a b : List Sp} (h : OkS (a ++ b)) : ∀ y ∈ a, ∀ z ∈ b, en y < z.1 := (List.pairwise_append.1 h.apart).2.2

theorem pieceA_in {x y z : Sp} (hz : z ∈ pieceA x y) (hy : 1 ≤ y.2) : z.1 = y.1 ∧ en z ≤ en y ∧ en z ≤ x.1 ∧ 1 ≤ z.2 := by
  unfold pieceA en at *
  split at hz
  · rw [List.mem_singleton.1 hz]; omega
  · split at hz
    · cases hz
    · split at hz
      · obtain ⟨z1, z2⟩ := z
        obtain ⟨e1, e2⟩ := Prod.mk.inj (List.mem_singleton.1 hz)
        simp only []
        omega
      · cases hz
theorem pieceB_in {x y z : Sp} (hz : z ∈ pieceB x y) (hy : 1 ≤ y.2) : en z = en y ∧ y.1 ≤ z.1 ∧ en x ≤ z.1 ∧ 1 ≤ z.2 := by
  unfold pieceB en at *
  split at hz
  · cases hz
  · split at hz
    · rw [List.mem_singleton.1 hz]; omega
    · split at hz
      · obtain ⟨z1, z2⟩ := z
        obtain ⟨e1, e2⟩ := Prod.mk.inj (List.mem_singleton.1 hz)
        simp only []
        omega
      · cases hz
theorem pieceA_mem {x y : Sp} {n : Int} (hx : 0 ≤ x.2) : mem (pieceA x y) n ↔ inn y n ∧ n < x.1 := by
  unfold pieceA
  split
  · rw [mem_one]; unfold inn en at *; omega
  · split
    · constructor
      · exact fun h => absurd h mem_nil
      · unfold inn en at *; omega
    · split
      · rw [mem_one]; unfold inn en at *; simp only []; omega
      · constructor
        · exact fun h => absurd h mem_nil
        · unfold inn en at *; omega
theorem pieceB_mem {x y : Sp} {n : Int} (hx : 0 ≤ x.2) : mem (pieceB x y) n ↔ inn y n ∧ en x ≤ n := by
  unfold pieceB
  split
  · constructor
    · exact fun h => absurd h mem_nil
    · unfold inn en at *; omega
  · split
    · rw [mem_one]; unfold inn en at *; omega
    · split
      · rw [mem_one]; unfold inn en at *; simp only []; omega
      · constructor
        · exact fun h => absurd h mem_nil
        · unfold inn en at *; omega
theorem pieceA_ok {x y : Sp} (hy : 0 ≤ y.1 ∧ 1 ≤ y.2 ∧ en y ≤ 1048576) : OkS (pieceA x y) := by
  refine ⟨fun z hz => ?_, ?_⟩
  · obtain ⟨h1, h2, h3, h4⟩ := pieceA_in hz hy.2.1; omega
  · unfold pieceA; split
    · simp
    · split
      · simp
      · split <;> simp
theorem pieceB_ok {x y : Sp} (hy : 0 ≤ y.1 ∧ 1 ≤ y.2 ∧ en y ≤ 1048576) : OkS (pieceB x y) := by
  refine ⟨fun z hz => ?_, ?_⟩
  · obtain ⟨h1, h2, h3, h4⟩ := pieceB_in hz hy.2.1; omega
  · unfold pieceB; split
    · simp
    · split
      · simp
      · split <;> simp
theorem ahead_cons (y : Sp) (l : List Sp) (x : Sp) : aheadF (y :: l) x = pieceA x y ++ aheadF l x := rfl
theorem behind_cons (y : Sp) (l : List Sp) (x : Sp) : behindF (y :: l) x = pieceB x y ++ behindF l x := rfl
theorem ahead_snoc (l : List Sp) (y x : Sp) : aheadF (l ++ [y]) x = aheadF l x ++ pieceA x y := by simp [aheadF]
theorem behind_snoc (l : List Sp) (y x : Sp) : behindF (l ++ [y]) x = behindF l x ++ pieceB x y := by simp [behindF]
theorem ahead_from {l : List Sp} {x z : Sp} (hz : z ∈ aheadF l x) : ∃ y ∈ l, z ∈ pieceA x y := by simpa [aheadF] using hz
theorem behind_from {l : List Sp} {x z : Sp} (hz : z ∈ behindF l x) : ∃ y ∈ l, z ∈ pieceB x y := by simpa [behindF] using hz
theorem ahead_mem {l : List Sp} {x : Sp} {n : Int} (hx : 0 ≤ x.2) : mem (aheadF l x) n ↔ mem l n ∧ n < x.1 := by
  induction l with
  | nil => simp [aheadF, mem_nil]
  | cons y l ih => rw [ahead_cons, mem_append, pieceA_mem hx, ih, mem_cons, or_and_right]
theorem behind_mem {l : List Sp} {x : Sp} {n : Int} (hx : 0 ≤ x.2) : mem (behindF l x) n ↔ mem l n ∧ en x ≤ n := by
  induction l with
  | nil => simp [behindF, mem_nil]
  | cons y l ih => rw [behind_cons, mem_append, pieceB_mem hx, ih, mem_cons, or_and_right]
theorem ahead_ok {l : List Sp} {x : Sp} (h : OkS l) : OkS (aheadF l x) ∧ ∀ z ∈ aheadF l x, en z ≤ x.1 := by
  refine ⟨?_, fun z hz => ?_⟩
  · induction l with
    | nil => exact OkS.nil
    | cons y l ih =>
      rw [ahead_cons]
      refine OkS.append (pieceA_ok (h.val y (by simp))) (ih h.tail) fun a ha b hb => ?_
      obtain ⟨c, hc, hbc⟩ := ahead_from hb
      have h1 := pieceA_in ha (h.val y (by simp)).2.1
      have h2 := pieceA_in hbc (h.val c (by simp [hc])).2.1
      have h3 := (List.pairwise_cons.1 h.apart).1 c hc
      omega
  · obtain ⟨y, hy, hzy⟩ := ahead_from hz
    exact (pieceA_in hzy (h.val y hy).2.1).2.2.1
theorem behind_ok {l : List Sp} {x : Sp} (h : OkS l) : OkS (behindF l x) ∧ ∀ z ∈ behindF l x, en x ≤ z.1 := by
  refine ⟨?_, fun z hz => ?_⟩
  · induction l with
    | nil => exact OkS.nil
    | cons y l ih =>
      rw [behind_cons]
      refine OkS.append (pieceB_ok (h.val y (by simp))) (ih h.tail) fun a ha b hb => ?_
      obtain ⟨c, hc, hbc⟩ := behind_from hb
      have h1 := pieceB_in ha (h.val y (by simp)).2.1
      have h2 := pieceB_in hbc (h.val c (by simp [hc])).2.1
      have h3 := (List.pairwise_cons.1 h.apart).1 c hc
      omega
  · obtain ⟨y, hy, hzy⟩ := behind_from hz
    exact (pieceB_in hzy (h.val y hy).2.1).2.2.1
theorem putF_last {l : List Sp} {y x : Sp} : putF (l ++ [y]) x = if x.2 = 0 then l ++ [y] else if en y = x.1 then l ++ [(y.1, y.2 + x.2)] else l ++ [y] ++ [x] := by
  unfold putF
  rw [List.getLast?_concat, List.dropLast_concat]
theorem putF_nil {x : Sp} : putF [] x = if x.2 = 0 then [] else [x] := by
  unfold putF
  rfl
theorem put_ok {l : List Sp} {x : Sp} (h : OkS l) (hx : May x) (hl : ∀ y ∈ l, en y ≤ x.1) : OkS (putF l x) ∧ (∀ n, mem (putF l x) n ↔ mem l n ∨ inn x n) ∧ ∀ y ∈ putF l x, en y ≤ en x := by
  obtain ⟨hx0, hx1, hx2⟩ := hx
  by_cases h0 : x.2 = 0
  · have e : putF l x = l := by unfold putF; rw [if_pos h0]
    rw [e]
    refine ⟨h, fun n => ?_, fun y hy => ?_⟩
    · constructor
      · exact .inl
      · rintro (h' | h')
        · exact h'
        · unfold inn en at h'; omega
    · have := hl y hy; unfold en at *; omega
  · have hone : OkS [x] := ⟨fun y hy => by rw [List.mem_singleton.1 hy]; exact ⟨hx0, by omega, hx2⟩, by simp⟩
    rcases List.eq_nil_or_concat l with rfl | ⟨l', y, rfl⟩
    · rw [putF_nil, if_neg h0]
      exact ⟨hone, fun n => by rw [mem_one]; simp [mem_nil], fun y hy => by rw [List.mem_singleton.1 hy]; exact Int.le_refl _⟩
    · rw [List.concat_eq_append] at h hl ⊢
      rw [putF_last, if_neg h0]
      have hy := h.val y (by simp)
      have hyx := hl y (by simp)
      by_cases he : en y = x.1
      · rw [if_pos he]
        refine ⟨OkS.append h.left ⟨fun z hz => by rw [List.mem_singleton.1 hz]; unfold en at *; simp only []; omega, by simp⟩ fun a ha b hb => by rw [List.mem_singleton.1 hb]; exact h.between a ha y (by simp), fun n => ?_, fun z hz => ?_⟩
        · rw [mem_append, mem_append, mem_one, mem_one, or_assoc]
          refine or_congr Iff.rfl ?_
          unfold inn en at *
          simp only []
          omega
        · rcases List.mem_append.1 hz with h' | h'
          · have := h.between z h' y (by simp); unfold en at *; omega
          · rw [List.mem_singleton.1 h']; unfold en at *; simp only []; omega
      · rw [if_neg he]
        refine ⟨OkS.append h hone fun a ha b hb => ?_, fun n => by rw [mem_append, mem_one], fun z hz => ?_⟩
        · rw [List.mem_singleton.1 hb]
          rcases List.mem_append.1 ha with h' | h'
          · have := h.between a h' y (by simp); unfold en at *; omega
          · rw [List.mem_singleton.1 h']; omega
        · rcases List.mem_append.1 hz with h' | h'
          · have := hl z h'; unfold en at *; omega
          · rw [List.mem_singleton.1 h']; exact Int.le_refl _
theorem puts_ok : ∀ {b a : List Sp}, OkS a → OkS b → (∀ y ∈ a, ∀ z ∈ b, en y ≤ z.1) → OkS (b.foldl putF a) ∧ ∀ n, mem (b.foldl putF a) n ↔ mem a n ∨ mem b n
  | [], a, ha, _, _ => ⟨ha, fun n => by simp [mem_nil]⟩
  | z :: b, a, ha, hb, h => by
    have hz := hb.val z (by simp)
    obtain ⟨p1, p2, p3⟩ := put_ok ha ⟨hz.1, by omega, hz.2.2⟩ (fun y hy => h y hy z (by simp))
    obtain ⟨q1, q2⟩ := puts_ok p1 hb.tail (fun y hy c hc => by
      have := p3 y hy
      have := (List.pairwise_cons.1 hb.apart).1 c hc
      omega)
    rw [List.foldl_cons]
    exact ⟨q1, fun n => by rw [q2, p2, mem_cons, or_assoc]⟩
theorem add_ok {l : List Sp} {x : Sp} (h : OkS l) (hx : May x) : OkS (addF l x) ∧ ∀ n, mem (addF l x) n ↔ mem l n ∨ inn x n := by
  obtain ⟨a1, a2⟩ := ahead_ok (x := x) h
  obtain ⟨b1, b2⟩ := behind_ok (x := x) h
  obtain ⟨p1, p2, p3⟩ := put_ok a1 hx a2
  obtain ⟨q1, q2⟩ := puts_ok p1 b1 (fun y hy z hz => by have := p3 y hy; have := b2 z hz; omega)
  refine ⟨q1, fun n => ?_⟩
  unfold addF
  rw [q2, p2, ahead_mem hx.2.1, behind_mem hx.2.1]
  constructor
  · rintro ((h' | h') | h')
    · exact .inl h'.1
    · exact .inr h'
    · exact .inl h'.1
  · rintro (h' | h')
    · by_cases h1 : n < x.1
      · exact .inl (.inl ⟨h', h1⟩)
      · by_cases h2 : en x ≤ n
        · exact .inr ⟨h', h2⟩
        · exact .inl (.inr ⟨by omega, by omega⟩)
    · exact .inl (.inr h')
theorem cut_ok {l : List Sp} {x : Sp} (h : OkS l) (hx : May x) : OkS (cutF l x) ∧ ∀ n, mem (cutF l x) n ↔ mem l n ∧ ¬ inn x n := by
  unfold cutF
  by_cases h0 : 0 < x.2
  · rw [if_pos h0]
    obtain ⟨a1, a2⟩ := ahead_ok (x := x) h
    obtain ⟨b1, b2⟩ := behind_ok (x := x) h
    refine ⟨OkS.append a1 b1 fun y hy z hz => ?_, fun n => ?_⟩
    · have := a2 y hy; have := b2 z hz; unfold en at *; omega
    · rw [mem_append, ahead_mem hx.2.1, behind_mem hx.2.1, ← and_or_left]
      refine and_congr Iff.rfl ?_
      unfold inn; omega
  · rw [if_neg h0]
    refine ⟨h, fun n => ?_⟩
    have := hx.2.1
    constructor
    · exact fun h' => ⟨h', by unfold inn en; omega⟩
    · exact fun h' => h'.1
/-- spans of the same numbers are the same -/
theorem ok_eq : ∀ {a b : List Sp}, OkS a → OkS b → (∀ n, mem a n ↔ mem b n) → a = b
  | [], [], _, _, _ => rfl
  | [], y :: b, _, hb, h => by
    have hy := hb.val y (by simp)
    exact absurd ((h y.1).2 (mem_cons.2 (.inl ⟨Int.le_refl _, by unfold en; omega⟩))) mem_nil
  | x :: a, [], ha, _, h => by
    have hy := ha.val x (by simp)
    exact absurd ((h x.1).1 (mem_cons.2 (.inl ⟨Int.le_refl _, by unfold en; omega⟩))) mem_nil
  | x :: a, y :: b, ha, hb, h => by
    have hx := ha.val x (by simp)
    have hy := hb.val y (by simp)
    have later : ∀ {z : Sp} {c : List Sp}, OkS (z :: c) → ∀ {n}, mem c n → en z < n := by
      rintro z c hc n ⟨u, hu, h1, _⟩
      have := (List.pairwise_cons.1 hc.apart).1 u hu
      omega
    have h1 : x.1 = y.1 := by
      have p := (h x.1).1 (mem_cons.2 (.inl ⟨Int.le_refl _, by unfold en; omega⟩))
      have q := (h y.1).2 (mem_cons.2 (.inl ⟨Int.le_refl _, by unfold en; omega⟩))
      have p' : y.1 ≤ x.1 := by
        rcases mem_cons.1 p with p | p
        · exact p.1
        · have := later hb p; unfold en at *; omega
      have q' : x.1 ≤ y.1 := by
        rcases mem_cons.1 q with q | q
        · exact q.1
        · have := later ha q; unfold en at *; omega
      omega
    have h2 : en x = en y := by
      have p : ¬ mem (x :: a) (en x) := by
        intro p
        rcases mem_cons.1 p with p | p
        · unfold inn at p; omega
        · have := later ha p; omega
      have q : ¬ mem (y :: b) (en y) := by
        intro p
        rcases mem_cons.1 p with p | p
        · unfold inn at p; omega
        · have := later hb p; omega
      rw [h] at p
      rw [← h] at q
      have p' : en y ≤ en x := by
        by_cases e : en y ≤ en x
        · exact e
        · exact absurd (mem_cons.2 (.inl ⟨by unfold en at *; omega, by omega⟩)) p
      have q' : en x ≤ en y := by
        by_cases e : en x ≤ en y
        · exact e
        · exact absurd (mem_cons.2 (.inl ⟨by unfold en at *; omega, by omega⟩)) q
      omega
    have hxy : x = y := by
      obtain ⟨x1, x2⟩ := x
      obtain ⟨y1, y2⟩ := y
      unfold en at h2
      simp only [] at h1 h2
      subst h1
      have : x2 = y2 := by omega
      rw [this]
    subst hxy
    rw [ok_eq ha.tail hb.tail fun n => ?_]
    constructor
    · intro p
      have h3 := later ha p
      rcases mem_cons.1 ((h n).1 (mem_cons.2 (.inr p))) with q | q
      · unfold inn at q; omega
      · exact q
    · intro p
      have h3 := later hb p
      rcases mem_cons.1 ((h n).2 (mem_cons.2 (.inr p))) with q | q
      · unfold inn at q; omega
      · exact q
/-- there are not many -/
theorem ok_length : ∀ {l : List Sp}, OkS l → ∀ (m : Int), 0 ≤ m → (∀ y ∈ l, m ≤ y.1) → (l.length : Int) + m ≤ 1048576 ∨ l = []
  | [], _, _, _, _ => .inr rfl
  | y :: l, h, m, h0, hm => by
    left
    have hy := h.val y (by simp)
    have h1 := hm y (by simp)
    rcases ok_length h.tail (en y) (by unfold en; omega) (fun z hz => by have := (List.pairwise_cons.1 h.apart).1 z hz; omega) with h' | rfl
    · simp only [List.length_cons]; unfold en at *; omega
    · simp; unfold en at *; omega
theorem OkS.len {l : List Sp} (h : OkS l) : l.length ≤ 1048576 := by
  rcases ok_length h 0 (by omega) (fun y hy => (h.val y hy).1) with h' | rfl
  · omega
  · simp
end Go.LawEnd
