/- The walk of DevNil. -/
import Derived.Test.YtbfmgdkiigkioaaNilDev
namespace Go.Proofs.Ytbfmgdkiigkioaa
open Go.RowKit Go.LawEnd

def Yes (w : World) (e : Ending) (w' : World) : Prop := e = .returned (.bool true) ∧ Below w.heap.size w w'
abbrev DX : Dv := ⟨[0, 0, 0], [(1, 1)], [], true⟩
theorem nl_write : writeF (D0 3) 1 1 = (0, DX) := rfl
theorem nl_okb (n : Nat) : OkB (D0 n) := ⟨fun x hx => by rw [List.eq_of_mem_replicate hx]; decide, fun x hx => by cases hx⟩
theorem nl_okx : OkB DX := ⟨fun x hx => by simp at hx; rw [hx]; decide, fun x hx => by rw [List.mem_singleton.1 hx]; decide⟩
set_option maxRecDepth 100000 in
set_option maxHeartbeats 6400000 in
theorem nil_any (s n : Int) (w : World) : Calls Try.prog 9 #[.int .i64 s, .int .i64 n] w (Yes w) := by
  have hz := zero34
  have hml := markC_length
  have hlb := laid_bl
  go_enter Try.func9, Try.ntmps9
  have HV : Hid (Hv w No [] w) := Hv.begin w
  go_wp2_with fail
  refine (read_nil _ _).mono ?_
  rintro e w1 ⟨rfl, hb⟩
  have HV1 : Hid (Hv w No [] (w1.alloc (.cells (markC 0).toArray 34))) := (HV.out.still hb).alloc_ _
  clear hb HV
  go_wp2_with fail
  obtain ⟨W1, hW1⟩ : ∃ y, y = w1.alloc (.cells (markC 0).toArray 34) := ⟨_, rfl⟩
  rw [← hW1] at HV1
  rw [← hW1]
  clear hW1
  refine (firm_nil _ _).mono ?_
  rintro e w2 ⟨rfl, hb⟩
  have HV2 : Hid (Hv w No [] (w2.alloc (.cells (markC 0).toArray 34))) := (HV1.out.still hb).alloc_ _
  clear hb HV1
  go_wp2_with fail
  obtain ⟨W2, hW2⟩ : ∃ y, y = w2.alloc (.cells (markC 0).toArray 34) := ⟨_, rfl⟩
  rw [← hW2] at HV2
  rw [← hW2]
  clear hW2
  refine (crash_nil _).mono ?_
  rintro e w3 ⟨rfl, rfl⟩
  go_wp2_with fail
  refine (new_yes 3 _ (by decide) (by decide)).mono ?_
  rintro e w3 ⟨a, rfl, h3⟩
  have HV3 : Hid (Hv w No [devA a (D0 3)] w3) := HV2.out.add h3
  clear h3 HV2
  go_wp2_with fail
  refine (new_yes 4 _ (by decide) (by decide)).mono ?_
  rintro e V0 ⟨b, rfl, h4⟩
  have HV : Hid (Hv w No [devA b (D0 4), devA a (D0 3)] V0) := HV3.out.add h4
  clear h4 HV3
  go_wp2_with fail
  refine (mark_any n _).mono ?_
  rintro e V1 ⟨rfl, hb⟩
  replace HV := Lib.hid (HV.out.still hb)
  clear hb
  go_wp2_with fail
  refine (write_nil _ _ _).mono ?_
  rintro e V2 ⟨rfl, hb⟩
  replace HV := Lib.hid (HV.out.still hb)
  clear hb
  go_wp2_with fail
  refine (flush_nil _).mono ?_
  rintro e V3 ⟨rfl, hb⟩
  replace HV := Lib.hid (HV.out.still hb)
  clear hb
  go_wp2_with fail
  refine (plan_nil0 _).mono ?_
  rintro e V4 ⟨rfl, rfl⟩
  go_wp2_with fail
  refine (size_nil _).mono ?_
  rintro e V5 ⟨rfl, rfl⟩
  go_wp2_with fail
  refine (open_nil _).mono ?_
  rintro e V6 ⟨rfl, rfl⟩
  go_wp2_with fail
  refine (planned_nil _).mono ?_
  rintro e V7 ⟨rfl, rfl⟩
  go_wp2_with fail
  refine (copy_nil _).mono ?_
  rintro e V8 ⟨rfl, rfl⟩
  go_wp2_with fail
  obtain ⟨T, hT, _⟩ := Hv.use [devA a (D0 3)] _ (HV.out.pick [1, 0])
  refine (copy_any (D := D0 3) (Lib.hid (by decide)) (Lib.hid (by decide)) (Lib.hid rfl) (Lib.hid hT)).mono ?_
  rintro e V9 ⟨x, rfl, h9⟩
  have HV9 : Hid (Hv w No [devA x (D0 3), devA a (D0 3), devA b (D0 4)] V9) := (HV.out.add h9).pick [0, 2, 1]
  clear h9 hT HV
  go_wp2_with fail
  obtain ⟨T, hT, _⟩ := Hv.use [devA x (D0 3), devA a (D0 3)] _ HV9.out
  refine (same_any (Lib.hid (nl_okb 3)) (Lib.hid (nl_okb 3)) (Lib.hid (by decide)) (Lib.hid rfl) (Lib.hid rfl) (Lib.hid hT)).mono ?_
  rintro e V10 ⟨rfl, hb⟩
  have HV10 := Lib.hid (HV9.out.still hb)
  rw [show (decide ((D0 3).firm = (D0 3).firm) && decide ((D0 3).opn = (D0 3).opn)) = true from by decide]
  clear hb hT HV9
  go_wp2_with fail
  refine (mark_any 1 _).mono ?_
  rintro e V11 ⟨rfl, hb⟩
  rw [show (1 : Int) % 256 = 1 from rfl]
  have HV11 := Lib.hid (HV10.out.still hb)
  clear hb HV10
  go_wp2_with fail
  obtain ⟨T, hT, hJ⟩ := Hv.use [devA x (D0 3)] _ HV11.out
  refine (write_any 1 1 (Lib.hid (by decide)) (Lib.hid hT)).mono ?_
  rintro e V12 ⟨rfl, h12⟩
  rw [nl_write] at h12 ⊢
  have HV12 : Hid (Hv w No [devA x DX, devA a (D0 3), devA b (D0 4)] V12) := hJ _ _ h12
  clear h12 hT hJ HV11
  go_wp2_with fail
  refine (same_nil2 _).mono ?_
  rintro e V13 ⟨rfl, rfl⟩
  go_wp2_with fail
  refine (same_nil1 _ _).mono ?_
  rintro e V13 ⟨rfl, rfl⟩
  go_wp2_with fail
  obtain ⟨T, hT, _⟩ := Hv.use [devA a (D0 3), devA b (D0 4)] _ (HV12.out.pick [1, 2, 0])
  refine (same_any (Lib.hid (nl_okb 3)) (Lib.hid (nl_okb 4)) (Lib.hid (by decide)) (Lib.hid rfl) (Lib.hid rfl) (Lib.hid hT)).mono ?_
  rintro e V14 ⟨rfl, hb⟩
  have HV14 := Lib.hid (HV12.out.still hb)
  rw [show (decide ((D0 3).firm = (D0 4).firm) && decide ((D0 3).opn = (D0 4).opn)) = false from by decide]
  clear hb hT HV12
  go_wp2_with fail
  obtain ⟨T, hT, _⟩ := Hv.use [devA a (D0 3), devA x DX] _ (HV14.out.pick [1, 0, 2])
  refine (same_any (Lib.hid (nl_okb 3)) (Lib.hid nl_okx) (Lib.hid (by decide)) (Lib.hid rfl) (Lib.hid rfl) (Lib.hid hT)).mono ?_
  rintro e V15 ⟨rfl, hb⟩
  have HV15 := Lib.hid (HV14.out.still hb)
  rw [show (decide ((D0 3).firm = DX.firm) && decide ((D0 3).opn = DX.opn)) = false from by decide]
  clear hb hT HV14
  go_wp2_with fail
  obtain ⟨T, hT, _⟩ := Hv.use [devA a (D0 3)] _ (HV15.out.pick [1, 0, 2])
  refine (open_any (Lib.hid hT)).mono ?_
  rintro e V16 ⟨rfl, rfl⟩
  rw [show (((D0 3).opn.length : Nat) : Int) = 0 from rfl]
  clear hT
  go_wp2_with fail
  refine (awake_any _).mono ?_
  rintro e V17 ⟨rfl, hb⟩
  have HV17 := Lib.hid (HV15.out.still hb)
  clear hb HV15
  go_wp2
  go_ret
  exact ⟨rfl, HV17.out.below⟩
end Go.Proofs.Ytbfmgdkiigkioaa
