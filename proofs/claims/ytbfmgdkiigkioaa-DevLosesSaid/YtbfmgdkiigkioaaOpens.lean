/- What comes in: calls, bools, one call; what stays in a loop of calls. -/
import Derived.Test.YtbfmgdkiigkioaaDoes
import Derived.Test.YtbfmgdkiigkioaaSame
import Derived.Test.YtbfmgdkiigkioaaCopy
import Derived.Test.YtbfmgdkiigkioaaAppAny
import Derived.Test.YtbfmgdkiigkioaaOpenRows
namespace Go.Proofs.Ytbfmgdkiigkioaa
open Go.RowKit Go.LawEnd Go.WideShapes Go.ChangeShapes Go.ChangeAt

/-- a call: what it asks, the sector, the number -/
abbrev Cl := Int × Int × Int
def ClArg (w : World) (A : Option Addr) (l : List Cl) : Prop := ∀ k (h : k < l.length), ∃ b off, A = some ⟨b, off, none⟩ ∧ b < w.heap.size ∧ w.cell? ⟨b, off + k * 3, none⟩ = some (.int .i64 l[k].1) ∧ w.cell? ⟨b, off + k * 3 + 1, none⟩ = some (.int .i64 l[k].2.1) ∧ w.cell? ⟨b, off + k * 3 + 2, none⟩ = some (.int .i64 l[k].2.2)
theorem ClArg.below {w w' : World} {A : Option Addr} {l : List Cl} (h : ClArg w A l) (hb : Below w.heap.size w w') : ClArg w' A l := by
  intro k hk
  obtain ⟨b, off, e, hlt, c0, c1, c2⟩ := h k hk
  exact ⟨b, off, e, by have := hb.size; omega, (hb.cell (p := ⟨b, off + k * 3, none⟩) hlt).trans c0, (hb.cell (p := ⟨b, off + k * 3 + 1, none⟩) hlt).trans c1, (hb.cell (p := ⟨b, off + k * 3 + 2, none⟩) hlt).trans c2⟩
theorem open_cl {H : Type} {enc : TypeId × Value → H} {w : World} {base fuel : Nat} {sp : Nat → Bool} {held : Bool} {cs : List Value} {x : DataW H × List MemPlace}
    (h : DataW.trod enc Try.prog w base sp held fuel 31 cs = some x) : ∃ a s z : Int, cs = [.int .i64 a, .int .i64 s, .int .i64 z] := by
  obtain ⟨xs, m, _, _, hl, hxl, hf⟩ := DataW.trod_struct Try.underlying31 h
  have c3 : Try.prog.cellsOf 31 = 3 := by kernel_rfl
  have c1 : Try.prog.cellsOf 3 = 1 := by kernel_rfl
  rw [c3] at hl
  match cs, hl with
  | [u, v, y], _ =>
    have f0 : DataW.trod enc Try.prog w base sp held m 3 (([u, v, y].drop 0).take (Try.prog.cellsOf 3)) = xs[0]? := hf 0 _ rfl
    have f1 : DataW.trod enc Try.prog w base sp held m 3 (([u, v, y].drop 1).take (Try.prog.cellsOf 3)) = xs[1]? := hf 1 _ rfl
    have f2 : DataW.trod enc Try.prog w base sp held m 3 (([u, v, y].drop 2).take (Try.prog.cellsOf 3)) = xs[2]? := hf 2 _ rfl
    rw [c1] at f0 f1 f2
    have hx3 : xs.length = 3 := hxl
    rw [List.getElem?_eq_getElem (by omega)] at f0 f1 f2
    obtain ⟨a, ea, _, _⟩ := DataW.trod_int Try.underlying3 f0
    obtain ⟨s, es, _, _⟩ := DataW.trod_int Try.underlying3 f1
    obtain ⟨z, ez, _, _⟩ := DataW.trod_int Try.underlying3 f2
    simp at ea es ez
    subst ea; subst es; subst ez
    exact ⟨a, s, z, rfl⟩
def decC : List Value → Cl
  | [.int _ a, .int _ s, .int _ z] => (a, s, z)
  | _ => (0, 0, 0)
theorem open_cls {H : Type} {enc : TypeId × Value → H} {W : World} {base : Nat} {v : Value} {d : DataW H} {p : List MemPlace} (hv : Value.okWide Try.prog W .any base 22 v) (h : DataW.Trod enc Try.prog W 0 (fun _ => true) true 22 v d p) :
    ∃ A c, ∃ l : List Cl, v = .slice A l.length c ∧ ClArg W A l := by
  obtain ⟨A, n, c, rows, rfl, hn, hnc, hc, hr, hcells⟩ := LawEnd.open_rows Try.underlying22 (by kernel_rfl : Try.prog.cellsOf 31 = 3) (by omega) hv h
  refine ⟨A, c, rows.map decC, by rw [List.length_map, hn], fun k hk => ?_⟩
  rw [List.length_map] at hk
  obtain ⟨b, off, rfl, hb, hcl⟩ := hcells (by omega)
  obtain ⟨_, fuel, y, hy⟩ := hr rows[k] (List.getElem_mem hk)
  obtain ⟨a, s, z, e⟩ := open_cl hy
  have c0 := hcl k hk 0 (by omega)
  have c1 := hcl k hk 1 (by omega)
  have c2 := hcl k hk 2 (by omega)
  have hd : (rows.map decC)[k]'(by rw [List.length_map]; exact hk) = (a, s, z) := by rw [List.getElem_map, e]; rfl
  rw [hd]
  rw [e] at c0 c1 c2
  exact ⟨b, off, rfl, hb, by simpa using c0, by simpa using c1, by simpa using c2⟩
theorem open_cl_arg {H : Type} {enc : TypeId × Value → H} {W : World} {base : Nat} {v : Value} {d : DataW H} {p : List MemPlace} (hv : Value.okWide Try.prog W .any base 31 v) (h : DataW.Trod enc Try.prog W 0 (fun _ => true) true 31 v d p) :
    ∃ a s z : Int, v = .agg #[.int .i64 a, .int .i64 s, .int .i64 z] := by
  obtain ⟨cs, rfl, _⟩ : ∃ cs, v = .agg cs ∧ True := by
    have := hv
    simp only [Value.okWide, Try.underlying31] at this
    obtain ⟨cs, h1, _⟩ := this
    exact ⟨cs, h1, trivial⟩
  obtain ⟨fuel, hf⟩ := h
  obtain ⟨a, s, z, e⟩ := open_cl hf
  refine ⟨a, s, z, ?_⟩
  obtain ⟨l⟩ := cs
  simp [Value.cells] at e
  rw [e]
theorem open_bools {H : Type} {enc : TypeId × Value → H} {W : World} {base : Nat} {v : Value} {d : DataW H} {p : List MemPlace} (hv : Value.okWide Try.prog W .any base 23 v) (h : DataW.Trod enc Try.prog W 0 (fun _ => true) true 23 v d p) :
    ∃ ks : List Bool, RowB W v ks := by
  obtain ⟨A, n, c, rows, rfl, hn, hnc, hc, hr, hcells⟩ := LawEnd.open_rows Try.underlying23 (by kernel_rfl : Try.prog.cellsOf 4 = 1) (by omega) hv h
  refine ⟨rows.map fun | [.bool b] => b | _ => false, A, c, by rw [List.length_map, hn], fun k hk => ?_⟩
  rw [List.length_map] at hk
  obtain ⟨b, off, rfl, hb, hcl⟩ := hcells (by omega)
  obtain ⟨_, fuel, y, hy⟩ := hr rows[k] (List.getElem_mem hk)
  obtain ⟨z, e, _⟩ := DataW.trod_bool Try.underlying4 hy
  have c0 := hcl k hk 0 (by omega)
  rw [e] at c0
  refine ⟨b, off, rfl, hb, ?_⟩
  rw [List.getElem_map]
  simp only [e]
  simpa using c0
theorem few_any (A : Option Addr) (n c : Nat) (w : World) : Calls Try.prog 10 #[.slice A n c] w fun e w' => e = .returned (.bool (decide ((n : Int) ≤ 80))) ∧ w = w' := by
  go_enter Try.func10, Try.ntmps10
  go_wp2
  go_ret
  exact ⟨rfl, rfl⟩
/-- what stays, behind k writes and flushes -/
structure Inv (n k : Nat) (D : Dv) : Prop where
  plan : D.plan = []
  np : D.np = true
  ok : OkD D
  okb : OkB D
  flen : D.firm.length = n
  olen : D.opn.length ≤ k
theorem inv_new (n : Nat) : Inv n 0 (D0 n) := ⟨rfl, rfl, (fun _ h => (by cases h)), ⟨(fun x hx => (by rw [List.eq_of_mem_replicate hx]; decide)), (fun _ h => (by cases h))⟩, List.length_replicate .., Nat.le_refl _⟩
section
variable {n k : Nat} {D : Dv}
theorem Inv.rest (h : Inv n k D) : restD D = D := restD_nil h.plan
theorem Inv.fate (h : Inv n k D) : fateD D = 0 := by unfold fateD; rw [h.plan]; rfl
theorem Inv.succ (h : Inv n k D) : Inv n (k + 1) D := ⟨h.plan, h.np, h.ok, h.okb, h.flen, Nat.le_succ_of_le h.olen⟩
theorem Inv.writeF (h : Inv n k D) (s z : Int) : writeF D s z = if there D s = true then (0, addD D (s, z)) else (10, D) := by
  unfold Go.Proofs.Ytbfmgdkiigkioaa.writeF
  rw [h.rest, h.fate]
  rfl
theorem Inv.flushF (h : Inv n k D) : flushF D = (0, flushD D) := by
  unfold Go.Proofs.Ytbfmgdkiigkioaa.flushF
  rw [h.rest, h.fate]
  rfl
theorem Inv.readF (h : Inv n k D) (s : Int) : readF D s = if there D s = true then (shownF D s, 0, D) else (0, 10, D) := by
  unfold Go.Proofs.Ytbfmgdkiigkioaa.readF
  rw [h.rest, h.fate]
  rfl
theorem Inv.add (h : Inv n k D) {s z : Int} (hs : there D s = true) (hz : 0 ≤ z ∧ z < 256) : Inv n (k + 1) (addD D (s, z)) := by
  refine ⟨h.plan, h.np, fun p hp => ?_, ⟨h.okb.1, fun p hp => ?_⟩, h.flen, by have := h.olen; simp [addD]; omega⟩
  · rcases List.mem_append.1 hp with h' | h'
    · exact h.ok p h'
    · rw [List.mem_singleton.1 h']
      exact there_lt hs
  · rcases List.mem_append.1 hp with h' | h'
    · exact h.okb.2 p h'
    · rw [List.mem_singleton.1 h']
      exact hz
theorem Inv.write (h : Inv n k D) {s z : Int} (hz : 0 ≤ z ∧ z < 256) : Inv n (k + 1) (Go.Proofs.Ytbfmgdkiigkioaa.writeF D s z).2 := by
  rw [h.writeF]
  by_cases hs : there D s = true
  · rw [if_pos hs]; exact h.add hs hz
  · rw [if_neg hs]; exact h.succ
theorem flushL_mem {f : List Int} {l : List Wr} {P : Int → Prop} (hf : ∀ x ∈ f, P x) (hl : ∀ p ∈ l, P p.2) : ∀ x ∈ flushL f l, P x := by
  unfold flushL
  induction l generalizing f with
  | nil => exact hf
  | cons a l ih =>
    rw [List.foldl_cons]
    refine ih (fun x hx => ?_) (fun p hp => hl p (List.mem_cons_of_mem _ hp))
    rcases List.mem_or_eq_of_mem_set hx with h | h
    · exact hf x h
    · rw [h]; exact hl a (List.mem_cons_self ..)
theorem Inv.flushD (h : Inv n k D) : Inv n k (flushD D) :=
  ⟨h.plan, h.np, fun _ hp => (by cases hp), ⟨flushL_mem h.okb.1 h.okb.2, fun _ hp => (by cases hp)⟩, by show (flushL _ _).length = n; rw [flushL_length]; exact h.flen, Nat.zero_le _⟩
theorem Inv.flush (h : Inv n k D) : Inv n (k + 1) (Go.Proofs.Ytbfmgdkiigkioaa.flushF D).2 := by
  rw [h.flushF]
  exact h.flushD.succ
end
end Go.Proofs.Ytbfmgdkiigkioaa
