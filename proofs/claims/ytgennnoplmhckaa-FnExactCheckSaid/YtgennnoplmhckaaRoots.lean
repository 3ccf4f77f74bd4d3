/- Contracts of Roots. -/
import Derived.Test.YtgennnoplmhckaaProgram
import Derived.Test.YtgennnoplmhckaaAppend
namespace Go.Proofs.Ytgennnoplmhckaa
open Go.RowKit
def rootsL (l : List AssignmentD) : List Int := l.map (·.f1)
def rootsD (p : ProgD) : List Int := rootsL p.asg
theorem rootsL_take {l : List AssignmentD} {k : Nat} (h : k < l.length) : rootsL (l.take (k + 1)) = rootsL (l.take k) ++ [(l.getD k default).f1] := by
  rw [List.take_succ_eq_append_getElem h, List.getD_eq_getElem?_getD, List.getElem?_eq_getElem h]
  simp only [rootsL, List.map_append, List.map_cons, List.map_nil, Option.getD_some]
theorem rootsL_len (l : List AssignmentD) : (rootsL l).length = l.length := by simp [rootsL]
theorem rootsD_len (p : ProgD) (h : ProgramSz 1048576 p) : (rootsD p).length ≤ 1048576 := by
  rw [rootsD, rootsL_len, p.hA]; exact h.2.1
theorem ints_at {ts : List Int} : ∀ i, i < ts.length → ∀ j, j < 1 → (ts.map (Value.int .i64))[i * 1 + j]? = (intAt ts i)[j]? := by
  intro i hi j hj
  obtain rfl : j = 0 := by omega
  rw [Nat.mul_one, Nat.add_zero]
  simp [intAt, hi]
set_option maxRecDepth 100000 in
set_option maxHeartbeats 1000000 in
theorem impl_Roots_c (v : Value) (p : ProgD) (w : World) (hr : ProgramR w v p) (hs : ProgramSz 1048576 p) :
    Calls Try.prog 30 #[v] w (Gives w 1 (rootsD p).length (intAt (rootsD p))) := by
  obtain ⟨i0, hi, hz0, hz1, hz2⟩ := info_parts info_Int
  obtain ⟨a, c, a', c', rfl, h1, h3⟩ := hr
  obtain ⟨_, hn, _⟩ := hs
  unfold rootsD
  have HN := Lib.hid p.hA
  generalize p.nA = n at *
  generalize p.asg = l at *
  have HR := Lib.hid h3
  clear h1 h3
  go_enter Try.func30, Try.ntmps30
  go_wp2
  go_loopw [3, 10] (fun out i wr => ∃ (k d : Nat) (X : Array Obj), k ≤ n ∧ i = .int .i64 k ∧ wr = more w X d ∧ (more w X d).ownsRow w.heap.size 3 1 out (rootsL (l.take k)).length ((rootsL (l.take k)).map (.int .i64))) (fun _ i _ => n - (intOf i).toNat)
  case atStart =>
    obtain ⟨X, d, e⟩ := Below.ext (w := w) (w' := (w.alloc (.cells #[.slice a p.nN c, .slice a' n c'] 43)).alloc (.cells #[] 3)) (by repeat (first | exact Below.refl _ _ | refine Below.drew ?_ | refine Below.alloc ?_ (by first | exact Nat.le_refl _ | (simp; done) | (simp; omega) | omega) _ | refine Below.more ?_ (by first | exact Nat.le_refl _ | (simp; done) | (simp; omega) | omega) _ _ | refine Below.setCell ?_ (by first | exact Nat.le_refl _ | (simp; done) | (simp; omega) | omega) _ | assumption))
    refine ⟨0, d, X, Nat.zero_le _, rfl, e, ?_⟩
    rw [← e]
    simpa [rootsL] using World.ownsRow_made (size := 1) (w.alloc (.cells #[.slice a p.nN c, .slice a' n c'] 43)) #[] 0 (by simp) (by decide) (by simp)
  case round =>
    obtain ⟨k, d, X, hk, rfl, rfl, hown⟩ := hrel
    by_cases hlt : k < n
    · have hk1 : (k : Int) < (n : Int) := by omega
      have hst := rootsL_take (l := l) (k := k) (by rw [HN.out]; exact hlt)
      obtain ⟨b, o, rfl, hb, hc⟩ := HR.out (by omega)
      have HC := Lib.hid hc
      clear hc
      have c0 : w.cell? ⟨b, o + k * 2, none⟩ = some (.string (l.getD k default).f0) := HC.out k hlt 0 (by omega)
      have c1 : w.cell? ⟨b, o + k * 2 + 1, none⟩ = some (.int .i64 (l.getD k default).f1) := HC.out k hlt 1 (by omega)
      generalize l.getD k default = x at *
      have HST := Lib.hid hst
      clear hst
      have hlen : (rootsL (l.take k)).length ≤ 1048576 := by rw [rootsL_len, List.length_take]; omega
      go_wp2_with (at_builtin; go_loud (refine wpList_append_more w ?b0 rfl _ _ 48 rfl 3 i0 _ 1 8 Try.underlying48 hi hz0 hz1 hz2 rfl (by decide) _ _ _ rfl ((hown.alloc _).alloc _) _ 1 1 [.int .i64 x.f1] rfl rfl ?b2 ?b3 ?b4 ?b5 ?_))
      case b0 => exact (by repeat (first | exact Below.refl _ _ | refine Below.drew ?_ | refine Below.alloc ?_ (by first | exact Nat.le_refl _ | (simp; done) | (simp; omega) | omega) _ | refine Below.more ?_ (by first | exact Nat.le_refl _ | (simp; done) | (simp; omega) | omega) _ _ | refine Below.setCell ?_ (by first | exact Nat.le_refl _ | (simp; done) | (simp; omega) | omega) _ | assumption))
      case b2 =>
        intro j u hu
        match j, hu with
        | 0, hu =>
          obtain rfl : Value.int .i64 x.f1 = u := by simpa using hu
          simp [go_sem]
        | j + 1, hu => simp at hu
      case b3 =>
        intro u hu
        obtain rfl : u = Value.int .i64 x.f1 := by simpa using hu
        rfl
      case b4 => simp only [maxLen]; omega
      case b5 => omega
      intro v' X' d' hown' hnn
      go_wp2
      refine ⟨⟨k + 1, d', X', by omega, rfl, rfl, ?_⟩, by simp only [intOf]; omega⟩
      rw [HST.out]
      simpa using hown'
    · have hk1 : ¬ (k : Int) < (n : Int) := by omega
      go_wp2
      go_ret
      have ht : l.take k = l := List.take_of_length_le (by rw [HN.out]; omega)
      rw [ht] at hown
      obtain ⟨a', cap', rfl, ho⟩ := ow_of_ownsRow hown ints_at
      exact ⟨a', cap', rfl, ho, (by repeat (first | exact Below.refl _ _ | refine Below.drew ?_ | refine Below.alloc ?_ (by first | exact Nat.le_refl _ | (simp; done) | (simp; omega) | omega) _ | refine Below.more ?_ (by first | exact Nat.le_refl _ | (simp; done) | (simp; omega) | omega) _ _ | refine Below.setCell ?_ (by first | exact Nat.le_refl _ | (simp; done) | (simp; omega) | omega) _ | assumption))⟩
set_option maxRecDepth 100000 in
set_option maxHeartbeats 1000000 in
theorem spec_Roots_c (v : Value) (p : ProgD) (w : World) (hr : ProgramR w v p) (hs : ProgramSz 1048576 p) :
    Calls Try.prog 29 #[v] w (Gives w 1 (rootsD p).length (intAt (rootsD p))) := by
  obtain ⟨i0, hi, hz0, hz1, hz2⟩ := info_parts info_Int
  obtain ⟨a, c, a', c', rfl, h1, h3⟩ := hr
  obtain ⟨_, hn, _⟩ := hs
  unfold rootsD
  have HN := Lib.hid p.hA
  generalize p.nA = n at *
  generalize p.asg = l at *
  have HR := Lib.hid h3
  clear h1 h3
  go_enter Try.func29, Try.ntmps29
  go_wp2
  go_loopw [3, 10] (fun out i wr => ∃ (k d : Nat) (X : Array Obj), k ≤ n ∧ i = .int .i64 k ∧ wr = more w X d ∧ (more w X d).ownsRow w.heap.size 3 1 out (rootsL (l.take k)).length ((rootsL (l.take k)).map (.int .i64))) (fun _ i _ => n - (intOf i).toNat)
  case atStart =>
    obtain ⟨X, d, e⟩ := Below.ext (w := w) (w' := (w.alloc (.cells #[.slice a p.nN c, .slice a' n c'] 43)).alloc (.cells #[] 3)) (by repeat (first | exact Below.refl _ _ | refine Below.drew ?_ | refine Below.alloc ?_ (by first | exact Nat.le_refl _ | (simp; done) | (simp; omega) | omega) _ | refine Below.more ?_ (by first | exact Nat.le_refl _ | (simp; done) | (simp; omega) | omega) _ _ | refine Below.setCell ?_ (by first | exact Nat.le_refl _ | (simp; done) | (simp; omega) | omega) _ | assumption))
    refine ⟨0, d, X, Nat.zero_le _, rfl, e, ?_⟩
    rw [← e]
    simpa [rootsL] using World.ownsRow_made (size := 1) (w.alloc (.cells #[.slice a p.nN c, .slice a' n c'] 43)) #[] 0 (by simp) (by decide) (by simp)
  case round =>
    obtain ⟨k, d, X, hk, rfl, rfl, hown⟩ := hrel
    by_cases hlt : k < n
    · have hk1 : (k : Int) < (n : Int) := by omega
      have hst := rootsL_take (l := l) (k := k) (by rw [HN.out]; exact hlt)
      obtain ⟨b, o, rfl, hb, hc⟩ := HR.out (by omega)
      have HC := Lib.hid hc
      clear hc
      have c0 : w.cell? ⟨b, o + k * 2, none⟩ = some (.string (l.getD k default).f0) := HC.out k hlt 0 (by omega)
      have c1 : w.cell? ⟨b, o + k * 2 + 1, none⟩ = some (.int .i64 (l.getD k default).f1) := HC.out k hlt 1 (by omega)
      generalize l.getD k default = x at *
      have HST := Lib.hid hst
      clear hst
      have hlen : (rootsL (l.take k)).length ≤ 1048576 := by rw [rootsL_len, List.length_take]; omega
      go_wp2_with (at_builtin; go_loud (refine wpList_append_more w ?b0 rfl _ _ 48 rfl 3 i0 _ 1 8 Try.underlying48 hi hz0 hz1 hz2 rfl (by decide) _ _ _ rfl ((hown.alloc _).alloc _) _ 1 1 [.int .i64 x.f1] rfl rfl ?b2 ?b3 ?b4 ?b5 ?_))
      case b0 => exact (by repeat (first | exact Below.refl _ _ | refine Below.drew ?_ | refine Below.alloc ?_ (by first | exact Nat.le_refl _ | (simp; done) | (simp; omega) | omega) _ | refine Below.more ?_ (by first | exact Nat.le_refl _ | (simp; done) | (simp; omega) | omega) _ _ | refine Below.setCell ?_ (by first | exact Nat.le_refl _ | (simp; done) | (simp; omega) | omega) _ | assumption))
      case b2 =>
        intro j u hu
        match j, hu with
        | 0, hu =>
          obtain rfl : Value.int .i64 x.f1 = u := by simpa using hu
          simp [go_sem]
        | j + 1, hu => simp at hu
      case b3 =>
        intro u hu
        obtain rfl : u = Value.int .i64 x.f1 := by simpa using hu
        rfl
      case b4 => simp only [maxLen]; omega
      case b5 => omega
      intro v' X' d' hown' hnn
      go_wp2
      refine ⟨⟨k + 1, d', X', by omega, rfl, rfl, ?_⟩, by simp only [intOf]; omega⟩
      rw [HST.out]
      simpa using hown'
    · have hk1 : ¬ (k : Int) < (n : Int) := by omega
      go_wp2
      go_ret
      have ht : l.take k = l := List.take_of_length_le (by rw [HN.out]; omega)
      rw [ht] at hown
      obtain ⟨a', cap', rfl, ho⟩ := ow_of_ownsRow hown ints_at
      exact ⟨a', cap', rfl, ho, (by repeat (first | exact Below.refl _ _ | refine Below.drew ?_ | refine Below.alloc ?_ (by first | exact Nat.le_refl _ | (simp; done) | (simp; omega) | omega) _ | refine Below.more ?_ (by first | exact Nat.le_refl _ | (simp; done) | (simp; omega) | omega) _ _ | refine Below.setCell ?_ (by first | exact Nat.le_refl _ | (simp; done) | (simp; omega) | omega) _ | assumption))⟩
end Go.Proofs.Ytgennnoplmhckaa
