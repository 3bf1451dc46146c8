/- What a round that collects a block and its place does: the plain part. -/
import Derived.Test.YtofeodhekpnpaaaAll
import Derived.Test.YtofeodhekpnpaaaSepR
import Derived.Test.YtofeodhekpnpaaaRefNew
namespace Go.Proofs.Ytofeodhekpnpaaa
open Go.RowKit Go.LawEnd Go.Shelf

/-- what an iterator reads, as an atom -/
def itA (B1 B2 : Nat) (g : Rowd) (l : Pls) (fr N : Int) : Atom where
  P w S := IT w B1 B2 g l fr N ∧ ∀ b, S b ↔ ITb B1 B2 g b
  lt h hb := by
    rcases (h.2 _).1 hb with e | e | e <;> subst e
    · exact h.1.b1.lt
    · exact h.1.b2.lt
    · exact h.1.row.lt
  keep h hk := ⟨h.1.keep fun b hb => hk b ((h.2 b).2 hb), h.2⟩
theorem celly_it (B B1 B2 : Nat) (g : Rowd) (l : Pls) (fr N : Int) : (itA B1 B2 g l fr N).Celly B := by
  intro w S b h hb
  rcases (h.2 _).1 hb with e | e | e <;> subst e
  · exact .inr ⟨_, h.1.b1, rfl⟩
  · exact .inr ⟨_, h.1.b2, rfl⟩
  · exact .inr ⟨_, h.1.row, rfl⟩
theorem misses_it {B1 B2 b : Nat} {g : Rowd} {l : Pls} {fr N : Int} (h : ¬ ITb B1 B2 g b) : (itA B1 B2 g l fr N).Misses b := fun _ _ hp hb => h ((hp.2 b).1 hb)
theorem hv_it {w w' : World} {B1 B2 : Nat} {g : Rowd} {l : Pls} {fr N : Int} (h : IT w' B1 B2 g l fr N) (h1 : w.heap.size ≤ B1) (h2 : w.heap.size ≤ B2) (h3 : w.heap.size ≤ g.g) (hb : Below w.heap.size w w') : Hv w No [itA B1 B2 g l fr N] w' :=
  hv_fresh (itA B1 B2 g l fr N) (T := ITb B1 B2 g) ⟨h, fun _ => Iff.rfl⟩ (by rintro b (e | e | e) <;> subst e <;> assumption) hb

/-- what is there between two rounds that collect: what has come, in two rows -/
def SI (w : World) (B0 P4 P6 P13 P14 : Nat) (fr N : Int) (R : List Atom) (A : Atom) (xs : List (Nat × Int × Bool)) (W : World) : Prop :=
  B0 ≤ W.heap.size ∧ ∃ vB vP, Hv w No ([blkA P13 50 #[vB], rowA vB 3 1 xs.length (xs.map fun x => .int .i64 (x.1 : Int)), blkA P14 51 #[vP], rowA vP 35 2 xs.length (pcs (xs.map (·.2))),
    blkA P6 4 #[.bool false], blkA P4 46 #[.int .i64 fr, .int .i64 N]] ++ R ++ [A]) W
theorem itemsTo_prefix (l : Pls) (fr N : Int) {k n : Nat} (h : k ≤ n) : itemsTo l fr N k <+: itemsTo l fr N n := by
  unfold itemsTo
  refine List.IsPrefix.map _ (List.IsPrefix.filter _ ?_)
  refine ⟨(List.range (n - k)).map (k + ·), ?_⟩
  rw [← List.range_add]
  congr 1
  omega
def pr (E : List (Nat × Int × Bool)) (k : Nat) : Nat × Int × Bool := E[k]?.getD (0, 0, false)
section
variable {w W : World} {B0 P4 P6 P13 P14 B B1 B2 : Nat} {fr N a c : Int} {R : List Atom} {A : Atom} {g : Rowd} {l : Pls} {xs : List (Nat × Int × Bool)}
theorem SI.size (h : SI w B0 P4 P6 P13 P14 fr N R A xs W) : w.heap.size ≤ W.heap.size := by
  obtain ⟨_, vB, vP, h⟩ := h
  exact h.size
theorem SI.own (hR : ∀ X ∈ R, X.Celly B) (hA : A.Celly B) (hB : w.heap.size ≤ B) : OwnFrom B (SI w B0 P4 P6 P13 P14 fr N R A) := by
  refine OwnFrom.and (fun _ _ _ _ hs hg _ => Nat.le_trans hs hg.size) (ex_own fun vB => ex_own fun vP => hv_own (fun s X hX => ?_) hB)
  simp only [List.cons_append, List.nil_append, List.mem_cons, List.mem_append, List.not_mem_nil, or_false] at hX
  rcases hX with rfl | rfl | rfl | rfl | rfl | rfl | h
  · exact celly_blk _ _ _ _
  · exact celly_row _ _ _ _ _ _
  · exact celly_blk _ _ _ _
  · exact celly_row _ _ _ _ _ _
  · exact celly_blk _ _ _ _
  · exact celly_blk _ _ _ _
  · rcases h with h | rfl
    · exact hR _ h
    · exact hA
theorem SI.it (h : SI w B0 P4 P6 P13 P14 fr N R (itA B1 B2 g l a c) xs W) : IT W B1 B2 g l a c := by
  obtain ⟨_, vB, vP, h⟩ := h
  obtain ⟨T, hT⟩ := h.last
  exact hT.1
theorem SI.itlt (h : SI w B0 P4 P6 P13 P14 fr N R (itA B1 B2 g l a c) xs W) : ∀ b, ITb B1 B2 g b → b < W.heap.size := by
  have h := h.it
  rintro b (e | e | e) <;> subst e
  · exact h.b1.lt
  · exact h.b2.lt
  · exact h.row.lt

theorem collect {pre : List (Nat × Int × Bool)} {Pb : Nat} {vB vP : Value} (i : Nat) (s : Int) (d : Bool)
    (hv : Hv w No ([blkA P13 50 #[vB], rowA vB 3 1 pre.length (pre.map fun x => .int .i64 (x.1 : Int)), blkA P14 51 #[vP], rowA vP 35 2 pre.length (pcs (pre.map (·.2))),
      blkA P6 4 #[.bool false], blkA P4 46 #[.int .i64 fr, .int .i64 N]] ++ R ++ [itA B1 B2 g l a c]) W)
    (hk : Blk W Pb 35 #[.int .i64 s, .bool d]) (hP : vP.ownBlock ≠ some Pb) (hm : ∀ X ∈ R, X.Misses Pb) (h13 : P13 ≠ Pb) (h14 : P14 ≠ Pb) (h6 : P6 ≠ Pb) (h4 : P4 ≠ Pb) (hc : ∀ X ∈ R, X.Celly B) (hlen : pre.length < 8192) (hsz : B0 ≤ W.heap.size) :
    ∃ g1 c1 W1 g2 c2 W2,
      (Builtin.append_ #[50, 50] 50 #[vB, .slice (some ⟨W.heap.size, 0, none⟩) 1 1]).run Try.prog (W.alloc (.cells #[.int .i64 (i : Int)] 3)) = .ok (.slice (some ⟨g1, 0, none⟩) (pre.length + 1) c1) W1 ∧
      W.cell? ⟨P13, 0, none⟩ = some vB ∧ W1.cell? ⟨P13, 0, none⟩ = some vB ∧ W1.frozen? ⟨P13, 0, none⟩ = false ∧
      (W1.setCell ⟨P13, 0, none⟩ (.slice (some ⟨g1, 0, none⟩) (pre.length + 1) c1)).cell? ⟨P14, 0, none⟩ = some vP ∧
      (W1.setCell ⟨P13, 0, none⟩ (.slice (some ⟨g1, 0, none⟩) (pre.length + 1) c1)).cell? ⟨Pb, 0, none⟩ = some (.int .i64 s) ∧
      (W1.setCell ⟨P13, 0, none⟩ (.slice (some ⟨g1, 0, none⟩) (pre.length + 1) c1)).cell? ⟨Pb, 1, none⟩ = some (.bool d) ∧
      (Builtin.append_ #[51, 51] 51 #[vP, .slice (some ⟨W1.heap.size, 0, none⟩) 1 1]).run Try.prog ((W1.setCell ⟨P13, 0, none⟩ (.slice (some ⟨g1, 0, none⟩) (pre.length + 1) c1)).alloc (.cells #[.int .i64 s, .bool d] 35)) = .ok (.slice (some ⟨g2, 0, none⟩) (pre.length + 1) c2) W2 ∧
      W2.cell? ⟨P14, 0, none⟩ = some vP ∧ W2.frozen? ⟨P14, 0, none⟩ = false ∧
      KeepsFrom B W (W2.setCell ⟨P14, 0, none⟩ (.slice (some ⟨g2, 0, none⟩) (pre.length + 1) c2)) ∧ KpT (ITb B1 B2 g) W (W2.setCell ⟨P14, 0, none⟩ (.slice (some ⟨g2, 0, none⟩) (pre.length + 1) c2)) ∧
      SI w B0 P4 P6 P13 P14 fr N R (itA B1 B2 g l a c) (pre ++ [(i, s, d)]) (W2.setCell ⟨P14, 0, none⟩ (.slice (some ⟨g2, 0, none⟩) (pre.length + 1) c2)) := by
  obtain ⟨i0, hi0, hz0, hz1, hz2⟩ := info_parts infoI
  obtain ⟨j0, hj0, jz0, jz1, jz2⟩ := info_parts infoPlace
  have hBrow := hv.row (i := 1) rfl
  obtain ⟨T, hT, _, hR⟩ := Hv.round (B := B) (A := itA B1 B2 g l a c) (F := ITb B1 B2 g) (fun h => h.2) _ hv (fun X hX => by
    simp only [List.cons_append, List.nil_append, List.mem_cons] at hX
    rcases hX with rfl | rfl | rfl | rfl | rfl | rfl | h
    · exact celly_blk _ _ _ _
    · exact celly_row _ _ _ _ _ _
    · exact celly_blk _ _ _ _
    · exact celly_row _ _ _ _ _ _
    · exact celly_blk _ _ _ _
    · exact celly_blk _ _ _ _
    · exact hc _ h)
  have hPb : ¬ T Pb := hT.misses fun X hX => by
    simp only [List.cons_append, List.nil_append, List.mem_cons] at hX
    rcases hX with rfl | rfl | rfl | rfl | rfl | rfl | h
    · exact misses_blk h13
    · exact misses_row ((own_far hBrow hk (by decide)).elim (fun e => by rw [e]; simp) id)
    · exact misses_blk h14
    · exact misses_row hP
    · exact misses_blk h6
    · exact misses_blk h4
    · exact hm _ h
  have H0 := Hv.start hT
  have H1 : Hv W T (rowA vB 3 1 pre.length (pre.map fun x => .int .i64 (x.1 : Int)) :: blkA P13 50 #[vB] :: blkA P14 51 #[vP] :: rowA vP 35 2 pre.length (pcs (pre.map (·.2))) :: blkA P6 4 #[.bool false] :: blkA P4 46 #[.int .i64 fr, .int .i64 N] :: R) W := H0.front 1 (by simp)
  obtain ⟨g1, c1, W1, E1, H2, hs1, _⟩ := H1.append (P := Try.prog) 50 50 3 Try.underlying50 hi0 hz0 hz1 hz2 rfl (by decide) 1 (by decide) #[.int .i64 (i : Int)] rfl (by simp [Value.oneCell']) (by unfold maxLen; omega) (by omega)
  have H3 : Hv W T (blkA P13 50 #[vB] :: rowA (.slice (some ⟨g1, 0, none⟩) (pre.length + 1) c1) 3 1 (pre.length + 1) ((pre.map fun x => .int .i64 (x.1 : Int)) ++ [.int .i64 (i : Int)]) :: blkA P14 51 #[vP] :: rowA vP 35 2 pre.length (pcs (pre.map (·.2))) :: blkA P6 4 #[.bool false] :: blkA P4 46 #[.int .i64 fr, .int .i64 N] :: R) W1 := H2.front 1 (by simp)
  have H4 : Hv W T (blkA P13 50 #[.slice (some ⟨g1, 0, none⟩) (pre.length + 1) c1] :: rowA (.slice (some ⟨g1, 0, none⟩) (pre.length + 1) c1) 3 1 (pre.length + 1) ((pre.map fun x => .int .i64 (x.1 : Int)) ++ [.int .i64 (i : Int)]) :: blkA P14 51 #[vP] :: rowA vP 35 2 pre.length (pcs (pre.map (·.2))) :: blkA P6 4 #[.bool false] :: blkA P4 46 #[.int .i64 fr, .int .i64 N] :: R) (W1.setCell ⟨P13, 0, none⟩ (.slice (some ⟨g1, 0, none⟩) (pre.length + 1) c1)) := H3.set 0 _
  have H5 : Hv W T (rowA vP 35 2 pre.length (pcs (pre.map (·.2))) :: blkA P13 50 #[.slice (some ⟨g1, 0, none⟩) (pre.length + 1) c1] :: rowA (.slice (some ⟨g1, 0, none⟩) (pre.length + 1) c1) 3 1 (pre.length + 1) ((pre.map fun x => .int .i64 (x.1 : Int)) ++ [.int .i64 (i : Int)]) :: blkA P14 51 #[vP] :: blkA P6 4 #[.bool false] :: blkA P4 46 #[.int .i64 fr, .int .i64 N] :: R) (W1.setCell ⟨P13, 0, none⟩ (.slice (some ⟨g1, 0, none⟩) (pre.length + 1) c1)) := H4.front 3 (by simp)
  obtain ⟨g2, c2, W2, E2, H6, _, _⟩ := H5.append (P := Try.prog) 51 51 35 Try.underlying51 hj0 jz0 jz1 jz2 rfl (by decide) 1 (by decide) #[.int .i64 s, .bool d] rfl (by simp [Value.oneCell']) (by unfold maxLen; omega) (by omega)
  have H7 : Hv W T (blkA P14 51 #[vP] :: rowA (.slice (some ⟨g2, 0, none⟩) (pre.length + 1) c2) 35 2 (pre.length + 1) (pcs (pre.map (·.2)) ++ [.int .i64 s, .bool d]) :: blkA P13 50 #[.slice (some ⟨g1, 0, none⟩) (pre.length + 1) c1] :: rowA (.slice (some ⟨g1, 0, none⟩) (pre.length + 1) c1) 3 1 (pre.length + 1) ((pre.map fun x => .int .i64 (x.1 : Int)) ++ [.int .i64 (i : Int)]) :: blkA P6 4 #[.bool false] :: blkA P4 46 #[.int .i64 fr, .int .i64 N] :: R) W2 := H6.front 3 (by simp)
  have H8 := H7.set 0 (.slice (some ⟨g2, 0, none⟩) (pre.length + 1) c2)
  have H9 : Hv W T (blkA P13 50 #[.slice (some ⟨g1, 0, none⟩) (pre.length + 1) c1] :: rowA (.slice (some ⟨g1, 0, none⟩) (pre.length + 1) c1) 3 1 (pre.length + 1) ((pre.map fun x => .int .i64 (x.1 : Int)) ++ [.int .i64 (i : Int)]) :: blkA P14 51 #[.slice (some ⟨g2, 0, none⟩) (pre.length + 1) c2] :: rowA (.slice (some ⟨g2, 0, none⟩) (pre.length + 1) c2) 35 2 (pre.length + 1) (pcs (pre.map (·.2)) ++ [.int .i64 s, .bool d]) :: blkA P6 4 #[.bool false] :: blkA P4 46 #[.int .i64 fr, .int .i64 N] :: R) (W2.setCell ⟨P14, 0, none⟩ (.slice (some ⟨g2, 0, none⟩) (pre.length + 1) c2)) := (H8.front 3 (by simp)).front 3 (by simp)
  obtain ⟨F1, F2, F3⟩ := hR _ _ H9
  have hk1 := hk.ch H4.ch hPb
  refine ⟨g1, c1, W1, g2, c2, W2, E1, by simpa using (H0.blk (i := 0) rfl).cell 0, by simpa using (H3.blk (i := 0) rfl).cell 0, (H3.blk (i := 0) rfl).frozen 0, by simpa using (H4.blk (i := 2) rfl).cell 0, by simpa using hk1.cell 0, by simpa using hk1.cell 1, ?_, by simpa using (H7.blk (i := 0) rfl).cell 0, (H7.blk (i := 0) rfl).frozen 0, F1, F2, Nat.le_trans hsz F1.size, .slice (some ⟨g1, 0, none⟩) (pre.length + 1) c1, .slice (some ⟨g2, 0, none⟩) (pre.length + 1) c2, ?_⟩
  · simpa [World.setCell] using E2
  · simpa [pcs] using F3
theorem keep_si {pre : List (Nat × Int × Bool)} (o : Obj) (h : SI w B0 P4 P6 P13 P14 fr N R (itA B1 B2 g l a c) pre W) :
    B0 ≤ W.heap.size ∧ KpT (ITb B1 B2 g) W (W.alloc o) ∧ ∀ h ∈ [(P14, 51)], ∃ v, Blk W h.1 h.2 #[v] ∧ ∀ b, v.ownBlock = some b → b < W.heap.size := by
  refine ⟨h.1, kpT_below h.itlt ((Below.refl _ W).alloc (Nat.le_refl _) _), fun p hp => ?_⟩
  simp only [List.mem_cons, List.not_mem_nil, or_false] at hp
  subst hp
  obtain ⟨_, vB, vP, hv⟩ := h
  exact ⟨vP, hv.blk (i := 2) rfl, fun b hb => ((hv.row (i := 3) rfl).lt b hb).2⟩
theorem filter_parts (p : Nat → Bool) (m : Nat) : ∀ n, (List.range n).filter (fun i => p i && decide (i < m)) ++ (List.range n).filter (fun i => p i && decide (m ≤ i)) = (List.range n).filter p
  | 0 => rfl
  | n + 1 => by
    have ih := filter_parts p m n
    simp only [List.range_succ, List.filter_append]
    by_cases hn : n < m
    · have h1 : (List.range n).filter (fun i => p i && decide (m ≤ i)) = [] := by
        rw [List.filter_eq_nil_iff]
        intro i hi
        have := List.mem_range.1 hi
        simp; intro _; omega
      rw [h1] at ih ⊢
      rw [← ih]
      have h2 : ¬ m ≤ n := by omega
      simp [List.filter_cons, hn, h2]
    · have h2 : m ≤ n := by omega
      rw [← ih]
      simp [List.filter_cons, hn, h2]
theorem items_parts (l : Pls) (fr N at_ : Int) (n : Nat) (h0 : 0 ≤ fr) (h1 : 0 ≤ at_) (h2 : at_ ≤ N) : itemsTo l fr at_ n ++ itemsTo l (fr + at_) (N - at_) n = itemsTo l fr N n := by
  unfold itemsTo
  rw [← List.map_append, ← filter_parts (yes l fr N) (fr + at_).toNat n]
  have e1 : yes l fr at_ = fun i => yes l fr N i && decide (i < (fr + at_).toNat) := by
    funext i
    unfold yes
    rw [Bool.eq_iff_iff]
    simp only [Bool.and_eq_true, decide_eq_true_eq]
    by_cases hs : some_ (pl l i) = true
    · simp only [hs, true_and]; omega
    · simp [hs]
  have e2 : yes l (fr + at_) (N - at_) = fun i => yes l fr N i && decide ((fr + at_).toNat ≤ i) := by
    funext i
    unfold yes
    rw [Bool.eq_iff_iff]
    simp only [Bool.and_eq_true, decide_eq_true_eq]
    by_cases hs : some_ (pl l i) = true
    · simp only [hs, true_and]; omega
    · simp [hs]
  rw [e1, e2]
/-- what is there between two rounds that compare -/
def S3 (w : World) (B0 P4 P6 P13 P14 P19 D1 D2 : Nat) (fr N : Int) (vB vP : Value) (A : Atom) (E : List (Nat × Int × Bool)) (k : Nat) (W : World) : Prop :=
  B0 ≤ W.heap.size ∧ Hv w No ([blkA P19 3 #[.int .i64 (k : Int)], blkA P13 50 #[vB], rowA vB 3 1 E.length (E.map fun x => .int .i64 (x.1 : Int)), blkA P14 51 #[vP], rowA vP 35 2 E.length (pcs (E.map (·.2))),
    blkA P6 4 #[.bool false], blkA P4 46 #[.int .i64 fr, .int .i64 N], defA D2, defA D1] ++ [A]) W
theorem S3.own {P19 D1 D2 : Nat} {vB vP : Value} {E : List (Nat × Int × Bool)} (hA : A.Celly B) (h1 : D1 < B) (h2 : D2 < B) (hB : w.heap.size ≤ B) : OwnFrom B (fun (pre : List (Nat × Int × Bool)) => S3 w B0 P4 P6 P13 P14 P19 D1 D2 fr N vB vP A E pre.length) := by
  refine OwnFrom.and (fun _ _ _ _ hs hg _ => Nat.le_trans hs hg.size) (hv_own (fun s X hX => ?_) hB)
  simp only [List.cons_append, List.nil_append, List.mem_cons, List.not_mem_nil, or_false] at hX
  rcases hX with rfl | rfl | rfl | rfl | rfl | rfl | rfl | rfl | rfl | rfl
  · exact celly_blk _ _ _ _
  · exact celly_blk _ _ _ _
  · exact celly_row _ _ _ _ _ _
  · exact celly_blk _ _ _ _
  · exact celly_row _ _ _ _ _ _
  · exact celly_blk _ _ _ _
  · exact celly_blk _ _ _ _
  · exact celly_def h2
  · exact celly_def h1
  · exact hA
theorem S3.it {P19 D1 D2 k : Nat} {vB vP : Value} {E : List (Nat × Int × Bool)} (h : S3 w B0 P4 P6 P13 P14 P19 D1 D2 fr N vB vP (itA B1 B2 g l a c) E k W) : IT W B1 B2 g l a c := by
  obtain ⟨T, hT⟩ := h.2.last
  exact hT.1
theorem S3.itlt {P19 D1 D2 k : Nat} {vB vP : Value} {E : List (Nat × Int × Bool)} (h : S3 w B0 P4 P6 P13 P14 P19 D1 D2 fr N vB vP (itA B1 B2 g l a c) E k W) : ∀ b, ITb B1 B2 g b → b < W.heap.size := by
  have h := h.it
  rintro b (e | e | e) <;> subst e
  · exact h.b1.lt
  · exact h.b2.lt
  · exact h.row.lt
/-- what a round of the comparing loop reads, at whatever world behind -/
structure S3R (W : World) (P13 P14 P19 : Nat) (AB AP : Option Addr) (cB cP : Nat) (E : List (Nat × Int × Bool)) (k : Nat) : Prop where
  n : W.cell? ⟨P19, 0, none⟩ = some (.int .i64 (k : Int))
  nf : W.frozen? ⟨P19, 0, none⟩ = false
  b : W.cell? ⟨P13, 0, none⟩ = some (.slice AB E.length cB)
  p : W.cell? ⟨P14, 0, none⟩ = some (.slice AP E.length cP)
  at_ : k < E.length → ∃ gB gP, AB = some ⟨gB, 0, none⟩ ∧ AP = some ⟨gP, 0, none⟩ ∧ gB < W.heap.size ∧ gP < W.heap.size ∧ W.cell? ⟨gB, k, none⟩ = some (.int .i64 ((pr E k).1 : Int)) ∧ W.cell? ⟨gP, k * 2, none⟩ = some (.int .i64 (pr E k).2.1) ∧ W.cell? ⟨gP, k * 2 + 1, none⟩ = some (.bool (pr E k).2.2)
theorem S3.read {P19 D1 D2 k : Nat} {AB AP : Option Addr} {cB cP : Nat} {E : List (Nat × Int × Bool)} (h : S3 w B0 P4 P6 P13 P14 P19 D1 D2 fr N (.slice AB E.length cB) (.slice AP E.length cP) A E k W) : S3R W P13 P14 P19 AB AP cB cP E k := by
  have h := h.2
  refine ⟨by simpa using (h.blk (i := 0) rfl).cell 0, (h.blk (i := 0) rfl).frozen 0, by simpa using (h.blk (i := 1) rfl).cell 0, by simpa using (h.blk (i := 3) rfl).cell 0, fun hk => ?_⟩
  have hB := h.row (i := 2) rfl
  have hP := h.row (i := 4) rfl
  obtain ⟨gB, c1, e1, _, l1⟩ := hB.form (by omega)
  obtain ⟨gP, c2, e2, _, l2⟩ := hP.form (by omega)
  injection e1 with e1 _ _
  injection e2 with e2 _ _
  subst e1 e2
  have hE : E[k]? = some (pr E k) := by simp [pr, hk]
  refine ⟨gB, gP, rfl, rfl, l1, l2, ?_, ?_, ?_⟩
  · have := hB.cells (g := gB) rfl k (.int .i64 ((pr E k).1 : Int)) (by simp [hE])
    rw [addr_add0] at this
    exact this
  · have hp := pcs_get (E.map (·.2)) k (by simpa using hk)
    have := hP.cells (g := gP) rfl (k * 2) _ hp.1
    rw [addr_add0] at this
    simpa [pr, hk] using this
  · have hp := pcs_get (E.map (·.2)) k (by simpa using hk)
    have := hP.cells (g := gP) rfl (k * 2 + 1) _ hp.2
    rw [addr_add0] at this
    simpa [pr, hk] using this
theorem S3.celly {P19 D1 D2 k : Nat} {vB vP : Value} {E : List (Nat × Int × Bool)} (h1 : D1 < B) (h2 : D2 < B) : ∀ X ∈ [blkA P19 3 #[.int .i64 (k : Int)], blkA P13 50 #[vB], rowA vB 3 1 E.length (E.map fun x => .int .i64 (x.1 : Int)), blkA P14 51 #[vP], rowA vP 35 2 E.length (pcs (E.map (·.2))),
    blkA P6 4 #[.bool false], blkA P4 46 #[.int .i64 fr, .int .i64 N], defA D2, defA D1], X.Celly B := by
  intro X hX
  simp only [List.mem_cons, List.not_mem_nil, or_false] at hX
  rcases hX with rfl | rfl | rfl | rfl | rfl | rfl | rfl | rfl | rfl
  · exact celly_blk _ _ _ _
  · exact celly_blk _ _ _ _
  · exact celly_row _ _ _ _ _ _
  · exact celly_blk _ _ _ _
  · exact celly_row _ _ _ _ _ _
  · exact celly_blk _ _ _ _
  · exact celly_blk _ _ _ _
  · exact celly_def h2
  · exact celly_def h1
theorem S3.fail_ {w2 : World} {P19 D1 D2 k : Nat} {vB vP : Value} {E : List (Nat × Int × Bool)} (h1 : D1 < B) (h2 : D2 < B) (h : S3 w B0 P4 P6 P13 P14 P19 D1 D2 fr N vB vP (itA B1 B2 g l a c) E k W) (hb : Below W.heap.size W w2) :
    w2.cell? ⟨P6, 0, none⟩ = some (.bool false) ∧ w2.frozen? ⟨P6, 0, none⟩ = false ∧ KeepsFrom B W (w2.setCell ⟨P6, 0, none⟩ (.bool false)) := by
  obtain ⟨T, hT, _, hR⟩ := Hv.round (B := B) (A := itA B1 B2 g l a c) (F := ITb B1 B2 g) (fun h => h.2) _ h.2 (S3.celly h1 h2)
  have H1 := ((Hv.start hT).still hb).pick [5]
  have H2 := H1.set 0 (.bool false)
  exact ⟨by simpa using (H1.blk (i := 0) rfl).cell 0, (H1.blk (i := 0) rfl).frozen 0, (hR _ _ H2).1⟩
theorem S3.next {w2 : World} {P19 D1 D2 k : Nat} {vB vP : Value} {E : List (Nat × Int × Bool)} (h1 : D1 < B) (h2 : D2 < B) (h : S3 w B0 P4 P6 P13 P14 P19 D1 D2 fr N vB vP (itA B1 B2 g l a c) E k W) (hb : Below W.heap.size W w2) :
    w2.cell? ⟨P19, 0, none⟩ = some (.int .i64 (k : Int)) ∧ w2.frozen? ⟨P19, 0, none⟩ = false ∧ KeepsFrom B W (w2.setCell ⟨P19, 0, none⟩ (.int .i64 ((k : Int) + 1))) ∧ KpT (ITb B1 B2 g) W (w2.setCell ⟨P19, 0, none⟩ (.int .i64 ((k : Int) + 1))) ∧
      S3 w B0 P4 P6 P13 P14 P19 D1 D2 fr N vB vP (itA B1 B2 g l a c) E (k + 1) (w2.setCell ⟨P19, 0, none⟩ (.int .i64 ((k : Int) + 1))) := by
  obtain ⟨T, hT, _, hR⟩ := Hv.round (B := B) (A := itA B1 B2 g l a c) (F := ITb B1 B2 g) (fun h => h.2) _ h.2 (S3.celly h1 h2)
  have H1 := (Hv.start hT).still hb
  have H2 := H1.set 0 (.int .i64 ((k : Int) + 1))
  obtain ⟨F1, F2, F3⟩ := hR _ _ H2
  exact ⟨by simpa using (H1.blk (i := 0) rfl).cell 0, (H1.blk (i := 0) rfl).frozen 0, F1, F2, Nat.le_trans h.1 F1.size, F3⟩
theorem prefix_snoc {E pre : List (Nat × Int × Bool)} {x : Nat × Int × Bool} (h : pre <+: E) (hk : pre.length < E.length) : pre ++ [x] <+: E ↔ pr E pre.length = x := by
  obtain ⟨t, rfl⟩ := h
  cases t with
  | nil => simp at hk
  | cons y t =>
    have e : pr (pre ++ y :: t) pre.length = y := by simp [pr]
    rw [e]
    constructor
    · rintro ⟨t', h⟩
      rw [List.append_assoc] at h
      have := List.append_cancel_left h
      injection this with h1 _
      exact h1.symm
    · rintro rfl
      exact ⟨t, by simp⟩
end
end Go.Proofs.Ytofeodhekpnpaaa
