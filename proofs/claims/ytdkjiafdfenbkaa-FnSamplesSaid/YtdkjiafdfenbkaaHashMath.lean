/- Plain numbers: the hash of integers. -/
import Derived.Test.YtdkjiafdfenbkaaMath
namespace Go.Proofs.Ytdkjiafdfenbkaa
open Go.RowKit
/-- One step of the hash. -/
def hashStep (h x : Int) : Int := 31 * h + clampI x (-1000000000) 1000000000 - fdivI (31 * h + clampI x (-1000000000) 1000000000) 1000003 * 1000003
def hashI (l : List Int) : Int := l.foldl hashStep 17
theorem hashStep_bd (h x : Int) : 0 ≤ hashStep h x ∧ hashStep h x < 1000003 := by
  unfold hashStep
  generalize 31 * h + clampI x (-1000000000) 1000000000 = a
  have e : fdivI a 1000003 = a / 1000003 := by unfold fdivI; rw [if_neg (by omega)]
  rw [e]
  omega
theorem hashI_bd (l : List Int) : 0 ≤ hashI l ∧ hashI l < 1000003 := by
  unfold hashI
  rcases List.eq_nil_or_concat l with rfl | ⟨l', x, rfl⟩
  · simp
  · rw [List.concat_eq_append, List.foldl_append]; exact hashStep_bd _ _
theorem hashI_take {ns : List Int} {k : Nat} (h : k < ns.length) : hashI (ns.take (k + 1)) = hashStep (hashI (ns.take k)) (ns.getD k 0) := by
  unfold hashI
  rw [List.take_succ_eq_append_getElem h, List.foldl_append, List.getD_eq_getElem?_getD, List.getElem?_eq_getElem h]
  rfl
theorem hash_mid {h x : Int} (hh : 0 ≤ h ∧ h < 1000003) : (-1000000000 ≤ 31 * h + clampI x (-1000000000) 1000000000 ∧ 31 * h + clampI x (-1000000000) 1000000000 ≤ 1031000062) ∧
    (-1001000000 ≤ fdivI (31 * h + clampI x (-1000000000) 1000000000) 1000003 * 1000003 ∧ fdivI (31 * h + clampI x (-1000000000) 1000000000) 1000003 * 1000003 ≤ 1031000062) ∧
    (-1001 ≤ fdivI (31 * h + clampI x (-1000000000) 1000000000) 1000003 ∧ fdivI (31 * h + clampI x (-1000000000) 1000000000) 1000003 ≤ 1031) ∧
    (-1000000000 ≤ clampI x (-1000000000) 1000000000 ∧ clampI x (-1000000000) 1000000000 ≤ 1000000000) := by
  have hc : -1000000000 ≤ clampI x (-1000000000) 1000000000 ∧ clampI x (-1000000000) 1000000000 ≤ 1000000000 := by unfold clampI; omega
  generalize clampI x (-1000000000) 1000000000 = c at *
  have e : ∀ a, fdivI a 1000003 = a / 1000003 := fun a => by unfold fdivI; rw [if_neg (by omega)]
  rw [e]
  omega
end Go.Proofs.Ytdkjiafdfenbkaa
