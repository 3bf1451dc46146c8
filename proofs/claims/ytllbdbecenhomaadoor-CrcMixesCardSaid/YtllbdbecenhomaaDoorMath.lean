/- Plain facts on the CRC-32C: the table's way is the bits' way; it is linear, and no two sums come together. No program in sight. -/
namespace Go.Proofs.CrcMath

def poly : Nat := 2197175160
/-- a sum behind a bit that was mixed in already -/
def st (u : Nat) : Nat := (u >>> 1) ^^^ (if u % 2 = 1 then poly else 0)
def iter (f : Nat → Nat) : Nat → Nat → Nat
  | 0, x => x
  | n + 1, x => iter f n (f x)
def tab : List Nat := [0, 274646895, 549293790, 820201905, 1098587580, 1361435347, 1640403810, 1905808397, 2197175160, 2460548119, 2722870694, 2987750089, 3280807620, 3553878443, 3811616794, 4084100981]
/-- half a byte, by the table -/
def half (u : Nat) : Nat := tab.getD (u &&& 15) 0 ^^^ (u >>> 4)
def next (s x : Nat) : Nat := half (half (s ^^^ x))
def go (s : Nat) (l : List Nat) : Nat := l.foldl next s
def all : Nat := 4294967295

theorem iter_add (f : Nat → Nat) (a b x : Nat) : iter f (a + b) x = iter f b (iter f a x) := by
  induction a generalizing x with
  | zero => simp [iter]
  | succ a ih => rw [Nat.succ_add]; simp only [iter]; exact ih _

theorem mod2_xor (a b : Nat) : (a ^^^ b) % 2 = (a % 2 + b % 2) % 2 := by
  have h : ∀ n : Nat, n % 2 = (n.testBit 0).toNat := by
    intro n; simp [Nat.testBit_zero]; rcases Nat.mod_two_eq_zero_or_one n with h | h <;> simp [h]
  rw [h, h a, h b, Nat.testBit_xor]
  cases a.testBit 0 <;> cases b.testBit 0 <;> rfl

theorem st_xor (a b : Nat) : st (a ^^^ b) = st a ^^^ st b := by
  unfold st
  rw [Nat.shiftRight_xor_distrib, mod2_xor]
  rcases Nat.mod_two_eq_zero_or_one a with ha | ha <;> rcases Nat.mod_two_eq_zero_or_one b with hb | hb <;> simp [ha, hb]
  · ac_rfl
  · ac_rfl
  · rw [show a >>> 1 ^^^ poly ^^^ (b >>> 1 ^^^ poly) = (a >>> 1 ^^^ b >>> 1) ^^^ (poly ^^^ poly) by ac_rfl]; simp

theorem iter_xor {f : Nat → Nat} (hf : ∀ a b, f (a ^^^ b) = f a ^^^ f b) (n : Nat) : ∀ a b, iter f n (a ^^^ b) = iter f n a ^^^ iter f n b := by
  induction n with
  | zero => intro a b; rfl
  | succ n ih => intro a b; simp only [iter]; rw [hf]; exact ih _ _

theorem st_even (v : Nat) : st (2 * v) = v := by
  unfold st
  rw [if_neg (by omega), Nat.xor_zero, Nat.shiftRight_eq_div_pow]
  omega

theorem st4_sixteen (v : Nat) : iter st 4 (16 * v) = v := by
  simp only [iter]
  rw [show 16 * v = 2 * (2 * (2 * (2 * v))) by omega, st_even, st_even, st_even, st_even]

theorem tab_st : ∀ r : Fin 16, tab.getD r.1 0 = iter st 4 r.1 := by decide +kernel

theorem split16 (u : Nat) : u = (16 * (u >>> 4)) ^^^ (u &&& 15) := by
  apply Nat.eq_of_testBit_eq
  intro i
  rw [Nat.testBit_xor, show 16 * (u >>> 4) = (u >>> 4) <<< 4 by rw [Nat.shiftLeft_eq]; omega, Nat.testBit_shiftLeft, Nat.testBit_shiftRight, Nat.testBit_and,
    show (15 : Nat) = 2 ^ 4 - 1 by rfl, Nat.testBit_two_pow_sub_one]
  by_cases h : i < 4
  · have h4 : ¬ 4 ≤ i := by omega
    simp [h, h4]
  · have h4 : 4 ≤ i := by omega
    simp [h, h4]

theorem half_st (u : Nat) : half u = iter st 4 u := by
  have h15 : u &&& 15 < 16 := by have := Nat.and_le_right (n := u) (m := 15); omega
  have e := tab_st ⟨u &&& 15, h15⟩
  unfold half
  rw [e]
  conv => rhs; rw [split16 u, iter_xor st_xor, st4_sixteen]
  exact Nat.xor_comm _ _

theorem next_st (s x : Nat) : next s x = iter st 8 (s ^^^ x) := by
  unfold next; rw [half_st, half_st, ← iter_add]

theorem next_xor (s t x y : Nat) : next (s ^^^ t) (x ^^^ y) = next s x ^^^ next t y := by
  rw [next_st, next_st, next_st, ← iter_xor st_xor]
  congr 1; ac_rfl

/-- the bits' way, as the document's answer goes -/
def bitStep (sum bit : Nat) : Nat := if (sum % 2 + bit) % 2 = 1 then (sum / 2) ^^^ poly else sum / 2
def byteBits (sum n : Nat) : Nat → Nat
  | 0 => sum
  | k + 1 => byteBits (bitStep sum (n % 2)) (n / 2) k

theorem step_st (s b : Nat) (hb : b < 2) : bitStep s b = st (s ^^^ b) := by
  unfold bitStep st
  have hb0 : b >>> 1 = 0 := by rw [Nat.shiftRight_eq_div_pow]; omega
  rw [Nat.shiftRight_xor_distrib, hb0, Nat.xor_zero, mod2_xor, Nat.mod_eq_of_lt hb, Nat.shiftRight_eq_div_pow]
  split <;> simp_all

theorem double_xor (n : Nat) : n = (2 * (n / 2)) ^^^ (n % 2) := by
  apply Nat.eq_of_testBit_eq
  intro i
  rw [Nat.testBit_xor]
  cases i with
  | zero => simp [Nat.testBit_zero]
  | succ i =>
    rw [Nat.testBit_succ, Nat.testBit_succ, Nat.testBit_succ]
    rw [show 2 * (n / 2) / 2 = n / 2 by omega, show n % 2 / 2 = 0 by omega]
    simp

theorem byteBits_st (k : Nat) : ∀ s n, byteBits s n k = iter st k (s ^^^ (n % 2 ^ k)) := by
  induction k with
  | zero => intro s n; simp [byteBits, iter, Nat.mod_one]
  | succ k ih =>
    intro s n
    simp only [byteBits, iter]
    rw [ih, step_st _ _ (by omega)]
    have h1 : n % 2 ^ (k + 1) % 2 = n % 2 := by rw [Nat.pow_succ, Nat.mul_comm]; exact Nat.mod_mul_right_mod n 2 (2 ^ k)
    have h2 : n % 2 ^ (k + 1) / 2 = n / 2 % 2 ^ k := by rw [Nat.pow_succ, Nat.mul_comm, Nat.mod_mul_right_div_self]
    have e : st (s ^^^ n % 2) ^^^ (n / 2 % 2 ^ k) = st (s ^^^ n % 2 ^ (k + 1)) := by
      conv => rhs; rw [double_xor (n % 2 ^ (k + 1)), h1, h2]
      rw [show s ^^^ (2 * (n / 2 % 2 ^ k) ^^^ n % 2) = (s ^^^ n % 2) ^^^ 2 * (n / 2 % 2 ^ k) by ac_rfl, st_xor _ (2 * (n / 2 % 2 ^ k)), st_even]
    rw [e]

theorem byteBits_next (s x : Nat) (hx : x < 256) : byteBits s x 8 = next s x := by
  rw [byteBits_st, next_st, Nat.mod_eq_of_lt (by omega)]

/- bounds -/
theorem st_lt (u : Nat) (h : u < 2 ^ 32) : st u < 2 ^ 32 := by
  unfold st
  refine Nat.xor_lt_two_pow ?_ ?_
  · rw [Nat.shiftRight_eq_div_pow]; omega
  · split <;> decide
theorem iter_lt {f : Nat → Nat} {B : Nat} (hf : ∀ u, u < B → f u < B) (n : Nat) : ∀ u, u < B → iter f n u < B := by
  induction n with
  | zero => intro u h; exact h
  | succ n ih => intro u h; exact ih _ (hf _ h)
theorem next_lt (s x : Nat) (hs : s < 2 ^ 32) (hx : x < 256) : next s x < 2 ^ 32 := by
  rw [next_st]; exact iter_lt st_lt 8 _ (Nat.xor_lt_two_pow hs (by omega))
theorem half_lt (u : Nat) (h : u < 2 ^ 32) : half u < 2 ^ 32 := by
  rw [half_st]; exact iter_lt st_lt 4 _ h
theorem go_lt (l : List Nat) : ∀ s, s < 2 ^ 32 → (∀ x ∈ l, x < 256) → go s l < 2 ^ 32 := by
  induction l with
  | nil => intro s h _; exact h
  | cons x l ih => intro s h hl; exact ih _ (next_lt s x h (hl x (List.mem_cons_self ..))) (fun y hy => hl y (List.mem_cons_of_mem _ hy))
theorem go_append (s : Nat) (a b : List Nat) : go s (a ++ b) = go (go s a) b := List.foldl_append ..
theorem go_cons (s x : Nat) (l : List Nat) : go s (x :: l) = go (next s x) l := rfl

/- linear -/
theorem go_xor (a b : List Nat) (h : a.length = b.length) : ∀ s t, go (s ^^^ t) (List.zipWith (· ^^^ ·) a b) = go s a ^^^ go t b := by
  induction a generalizing b with
  | nil => intro s t; cases b with
    | nil => rfl
    | cons _ _ => simp at h
  | cons x a ih => intro s t; cases b with
    | nil => simp at h
    | cons y b =>
      simp only [List.zipWith_cons_cons, go_cons, next_xor]
      exact ih b (by simpa using h) _ _

def shifted (s n : Nat) : Nat := go s (List.replicate n 0)
theorem shifted_succ (s n : Nat) : shifted s (n + 1) = next (shifted s n) 0 := by
  unfold shifted
  rw [List.replicate_succ', go_append]; rfl
theorem zip_zero (l : List Nat) : List.zipWith (· ^^^ ·) (List.replicate l.length 0) l = l := by
  induction l with
  | nil => rfl
  | cons x l ih => simp [List.replicate_succ, ih]
theorem go_shift (s t : Nat) (l : List Nat) : go (s ^^^ t) l = shifted s l.length ^^^ go t l := by
  have := go_xor (List.replicate l.length 0) l (by simp) s t
  rw [zip_zero] at this
  exact this
theorem shifted_xor (s t n : Nat) : shifted (s ^^^ t) n = shifted s n ^^^ shifted t n := by
  have := go_shift s t (List.replicate n 0)
  rw [List.length_replicate] at this
  exact this
theorem shifted_add (s a b : Nat) : shifted s (a + b) = shifted (shifted s a) b := by
  unfold shifted; rw [← List.replicate_append_replicate, go_append]

/- no two come together -/
theorem xor_eq_zero' {a b : Nat} (h : a ^^^ b = 0) : a = b := by
  have h2 : a ^^^ b ^^^ b = 0 ^^^ b := by rw [h]
  rwa [Nat.xor_assoc, Nat.xor_self, Nat.xor_zero, Nat.zero_xor] at h2
theorem st_zero {u : Nat} (hu : u < 2 ^ 32) (h : st u = 0) : u = 0 := by
  unfold st at h
  rw [Nat.shiftRight_eq_div_pow] at h
  split at h
  · have := xor_eq_zero' h
    unfold poly at this
    omega
  · rw [Nat.xor_zero] at h; omega
theorem st_inj {a b : Nat} (ha : a < 2 ^ 32) (hb : b < 2 ^ 32) (h : st a = st b) : a = b := by
  apply xor_eq_zero'
  apply st_zero (Nat.xor_lt_two_pow ha hb)
  rw [st_xor, h, Nat.xor_self]
theorem iter_inj (n : Nat) : ∀ a b, a < 2 ^ 32 → b < 2 ^ 32 → iter st n a = iter st n b → a = b := by
  induction n with
  | zero => intro a b _ _ h; exact h
  | succ n ih => intro a b ha hb h; exact st_inj ha hb (ih _ _ (st_lt _ ha) (st_lt _ hb) h)
theorem xor_right_inj' {a b x : Nat} (h : a ^^^ x = b ^^^ x) : a = b := by
  have : a ^^^ x ^^^ x = b ^^^ x ^^^ x := by rw [h]
  rwa [Nat.xor_assoc, Nat.xor_assoc, Nat.xor_self, Nat.xor_zero, Nat.xor_zero] at this
theorem next_inj_left {s t x : Nat} (hs : s < 2 ^ 32) (ht : t < 2 ^ 32) (hx : x < 256) (h : next s x = next t x) : s = t := by
  rw [next_st, next_st] at h
  exact xor_right_inj' (iter_inj 8 _ _ (Nat.xor_lt_two_pow hs (by omega)) (Nat.xor_lt_two_pow ht (by omega)) h)
theorem next_inj_right {s x y : Nat} (hs : s < 2 ^ 32) (hx : x < 256) (hy : y < 256) (h : next s x = next s y) : x = y := by
  rw [next_st, next_st] at h
  have := iter_inj 8 _ _ (Nat.xor_lt_two_pow hs (by omega)) (Nat.xor_lt_two_pow hs (by omega)) h
  rw [Nat.xor_comm s x, Nat.xor_comm s y] at this
  exact xor_right_inj' this
theorem go_inj (l : List Nat) : ∀ s t, s < 2 ^ 32 → t < 2 ^ 32 → (∀ x ∈ l, x < 256) → go s l = go t l → s = t := by
  induction l with
  | nil => intro s t _ _ _ h; exact h
  | cons x l ih =>
    intro s t hs ht hl h
    have hx := hl x (List.mem_cons_self ..)
    exact next_inj_left hs ht hx (ih _ _ (next_lt _ _ hs hx) (next_lt _ _ ht hx) (fun y hy => hl y (List.mem_cons_of_mem _ hy)) h)
theorem all_lt : all < 2 ^ 32 := by decide

/-- Two rows that part at one place alone have one sum just if they are one there. -/
theorem go_set (l : List Nat) (i : Nat) (x : Nat) (hi : i < l.length) (hl : ∀ y ∈ l, y < 256) (hx : x < 256) (s : Nat) (hs : s < 2 ^ 32) :
    go s (l.set i x) = go s l ↔ l[i] = x := by
  constructor
  · intro h
    have e1 : l = l.take i ++ l[i] :: l.drop (i + 1) := by simp
    have e2 : l.set i x = l.take i ++ x :: l.drop (i + 1) := by rw [List.set_eq_take_append_cons_drop, if_pos hi]
    have hh : go s (l.take i ++ x :: l.drop (i + 1)) = go s (l.take i ++ l[i] :: l.drop (i + 1)) := by rw [← e2, ← e1]; exact h
    rw [go_append, go_append, go_cons, go_cons] at hh
    have hp : go s (l.take i) < 2 ^ 32 := go_lt _ _ hs (fun y hy => hl y (List.mem_of_mem_take hy))
    have hli := hl l[i] (List.getElem_mem hi)
    exact (next_inj_right hp hx hli (go_inj _ _ _ (next_lt _ _ hp hx) (next_lt _ _ hp hli) (fun y hy => hl y (List.mem_of_mem_drop hy)) hh)).symm
  · intro h
    subst h
    rw [List.set_getElem_self]

/-- No number of noughts from 1 to 300 leads 'all' back to itself. -/
def neverBack : Nat → Nat → Bool
  | 0, _ => true
  | n + 1, s => let t := next s 0; t != all && neverBack n t
theorem neverBack_sound : ∀ (n s k : Nat), neverBack n s = true → 0 < k → k ≤ n → shifted s k ≠ all := by
  intro n
  induction n with
  | zero => intro s k _ h0 hk; omega
  | succ n ih =>
    intro s k h h0 hk
    simp only [neverBack, Bool.and_eq_true, bne_iff_ne] at h
    cases k with
    | zero => omega
    | succ k =>
      rw [show k + 1 = 1 + k by omega, shifted_add]
      have e1 : shifted s 1 = next s 0 := rfl
      rw [e1]
      cases k with
      | zero => exact h.1
      | succ k => exact ih _ _ h.2 (by omega) (by omega)
theorem neverBack_all : neverBack 300 all = true := by decide +kernel
theorem shifted_lt (s n : Nat) (hs : s < 2 ^ 32) : shifted s n < 2 ^ 32 := go_lt _ _ hs (fun x hx => by rw [List.eq_of_mem_replicate hx]; omega)
theorem shifted_inj (s t n : Nat) (hs : s < 2 ^ 32) (ht : t < 2 ^ 32) (h : shifted s n = shifted t n) : s = t :=
  go_inj _ _ _ hs ht (fun x hx => by rw [List.eq_of_mem_replicate hx]; omega) h
theorem shifted_one_le {a b : Nat} (hab : a ≤ b) (hb : b ≤ 300) (h : shifted all a = shifted all b) : a = b := by
  rcases Nat.lt_or_ge a b with hlt | hge
  · exfalso
    have e : shifted all b = shifted (shifted all (b - a)) a := by rw [← shifted_add]; congr 1; omega
    rw [e] at h
    exact neverBack_sound 300 all (b - a) neverBack_all (by omega) (by omega) (shifted_inj _ _ _ all_lt (shifted_lt _ _ all_lt) h).symm
  · omega
theorem shifted_all_eq {a b : Nat} (ha : a ≤ 300) (hb : b ≤ 300) : shifted all a = shifted all b ↔ a = b := by
  constructor
  · intro h
    rcases Nat.le_total a b with hab | hab
    · exact shifted_one_le hab hb h
    · exact (shifted_one_le hab ha h.symm).symm
  · rintro rfl; rfl

/-- The sum. -/
def sum (l : List Nat) : Nat := go all l ^^^ all
theorem sum_lt (l : List Nat) (h : ∀ x ∈ l, x < 256) : sum l < 2 ^ 32 := Nat.xor_lt_two_pow (go_lt _ _ all_lt h) all_lt
/-- all less a sum is the xor with all -/
theorem sub_all (n : Nat) (h : n < 2 ^ 32) : all - n = n ^^^ all := by
  have : all = 2 ^ 32 - 1 := rfl
  rw [this]
  apply Nat.eq_of_testBit_eq
  intro i
  rw [Nat.testBit_xor, show 2 ^ 32 - 1 - n = 2 ^ 32 - (n + 1) by omega, Nat.testBit_two_pow_sub_succ h, Nat.testBit_two_pow_sub_one]
  by_cases hi : i < 32
  · simp [hi]
  · have : n.testBit i = false := Nat.testBit_lt_two_pow (Nat.lt_of_lt_of_le h (Nat.pow_le_pow_right (by omega) (by omega)))
    simp [hi, this]
/-- P1.3 -/
theorem sum_join (a b : List Nat) : sum (a ++ b) = shifted (sum a) b.length ^^^ sum b := by
  unfold sum
  rw [go_append]
  have h := go_shift (go all a ^^^ all) all b
  rw [Nat.xor_assoc, Nat.xor_self, Nat.xor_zero] at h
  rw [h, Nat.xor_assoc]
theorem sum_mix (a b c : List Nat) (h1 : a.length = b.length) (h2 : a.length = c.length) :
    sum (List.zipWith (· ^^^ ·) (List.zipWith (· ^^^ ·) a b) c) = sum a ^^^ sum b ^^^ sum c := by
  unfold sum
  have e : go (all ^^^ all ^^^ all) (List.zipWith (· ^^^ ·) (List.zipWith (· ^^^ ·) a b) c) = go all a ^^^ go all b ^^^ go all c := by
    rw [go_xor _ _ (by simp; omega), go_xor _ _ h1]
  rw [Nat.xor_self, Nat.zero_xor] at e
  rw [e]
  generalize go all a = x
  generalize go all b = y
  generalize go all c = z
  rw [show x ^^^ all ^^^ (y ^^^ all) ^^^ (z ^^^ all) = (x ^^^ y ^^^ z ^^^ all) ^^^ (all ^^^ all) by ac_rfl, Nat.xor_self, Nat.xor_zero]
/-- noughts behind noughts -/
theorem noughts_join (a b : Nat) : shifted (shifted all a ^^^ all) b ^^^ (shifted all b ^^^ all) = shifted all (a + b) ^^^ all := by
  rw [shifted_xor, ← shifted_add]
  rw [show shifted all (a + b) ^^^ shifted all b ^^^ (shifted all b ^^^ all) = (shifted all (a + b) ^^^ all) ^^^ (shifted all b ^^^ shifted all b) by ac_rfl, Nat.xor_self, Nat.xor_zero]
end Go.Proofs.CrcMath
