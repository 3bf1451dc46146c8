/- Writes of unlike sectors, told in either order. -/
import Derived.Test.YtbfmgdkiigkioaaReadsP
namespace Go.Proofs.Ytbfmgdkiigkioaa
open Go.RowKit Go.LawEnd

section
variable {D : Dv} {n k : Nat} {a b y z : Int}
theorem there_writeF (s : Int) : there (writeF D a y).2 s = there D s := by
  unfold writeF
  split
  · split
    · rfl
    · split <;> rfl
  · rfl
theorem flush_comm (h : Inv n k D) (hab : a ≠ b) : (flushD (writeF (writeF D a y).2 b z).2).firm = (flushD (writeF (writeF D b z).2 a y).2).firm := by
  have h1 : Inv n k (addD D (a, y)) ∨ True := .inr trivial
  clear h1
  by_cases ha : there D a = true
  · by_cases hb : there D b = true
    · have e1 : writeF D a y = (0, addD D (a, y)) := by rw [h.writeF, if_pos ha]
      have e2 : writeF D b z = (0, addD D (b, z)) := by rw [h.writeF, if_pos hb]
      have e3 : writeF (addD D (a, y)) b z = (0, addD (addD D (a, y)) (b, z)) := by
        unfold writeF
        rw [there_add, if_pos hb, show fateD (addD D (a, y)) = 0 from h.fate, show restD (addD D (a, y)) = addD D (a, y) from restD_nil h.plan]
        rfl
      have e4 : writeF (addD D (b, z)) a y = (0, addD (addD D (b, z)) (a, y)) := by
        unfold writeF
        rw [there_add, if_pos ha, show fateD (addD D (b, z)) = 0 from h.fate, show restD (addD D (b, z)) = addD D (b, z) from restD_nil h.plan]
        rfl
      rw [e1, e2]
      simp only []
      rw [e3, e4]
      show flushL D.firm ((D.opn ++ [(a, y)]) ++ [(b, z)]) = flushL D.firm ((D.opn ++ [(b, z)]) ++ [(a, y)])
      rw [flushL_append, flushL_append, flushL_append, flushL_append]
      have ha0 := (there_lt ha).1
      have hb0 := (there_lt hb).1
      exact List.set_comm _ _ (by simp only; omega)
    · have e1 : ∀ X : Dv, there X b = there D b → (writeF X b z).2 = X := fun X hX => by unfold writeF; rw [hX, if_neg hb]
      rw [e1 _ (there_writeF b), e1 D rfl]
  · have e1 : ∀ X : Dv, there X a = there D a → (writeF X a y).2 = X := fun X hX => by unfold writeF; rw [hX, if_neg ha]
    rw [e1 D rfl, e1 _ (there_writeF a)]
theorem flush_twice (h : D.opn = []) : flushD D = D := by
  cases D
  simp only at h
  subst h
  rfl
theorem crash_none : crashD D [] = ⟨D.firm, [], [], true⟩ := by unfold crashD; rw [kept_nil]; rfl
end
end Go.Proofs.Ytbfmgdkiigkioaa
