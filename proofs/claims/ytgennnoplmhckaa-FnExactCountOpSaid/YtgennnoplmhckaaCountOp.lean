/- Contracts of CountOp. -/
import Derived.Test.YtgennnoplmhckaaProgram
namespace Go.Proofs.Ytgennnoplmhckaa
open Go.RowKit
/-- How many of the nodes have the operation? -/
def countI (l : List NodeD) (op : Int) : Nat := (l.filter fun x => x.f0 == op).length
theorem countI_take {l : List NodeD} {op : Int} {k : Nat} (h : k < l.length) : countI (l.take (k + 1)) op = countI (l.take k) op + (if (l.getD k default).f0 == op then 1 else 0) := by
  rw [List.take_succ_eq_append_getElem h, List.getD_eq_getElem?_getD, List.getElem?_eq_getElem h]
  simp only [countI, List.filter_append, List.length_append, List.filter_cons, List.filter_nil, Option.getD_some]
  split <;> simp
theorem countI_le (l : List NodeD) (op : Int) : countI l op ≤ l.length := List.length_filter_le _ _
set_option maxRecDepth 100000 in
set_option maxHeartbeats 1000000 in
theorem impl_CountOp_c (v : Value) (p : ProgD) (op : Int) (w : World) (hr : ProgramR w v p) (hs : ProgramSz 1048576 p) :
    Calls Try.prog 25 #[v, .int .i64 op] w fun e w' => e = .returned (.int .i64 (countI p.nodes op)) ∧ Below w.heap.size w w' := by
  obtain ⟨a, c, a', c', rfl, ⟨A, K, h1, h2⟩, h3⟩ := hr
  obtain ⟨hs1, _⟩ := hs
  have HN := Lib.hid p.hN
  generalize p.nN = n at *
  generalize p.nodes = l at *
  have HR := Lib.hid h1
  clear h1 h2 h3
  go_enter Try.func25, Try.ntmps25
  go_wp2
  go_loopw [5, 11] (fun c i wr => ∃ (k d : Nat) (X : Array Obj), k ≤ n ∧ i = .int .i64 k ∧ c = .int .i64 (countI (l.take k) op) ∧ wr = more w X d) (fun _ i _ => n - (intOf i).toNat)
  case atStart =>
    obtain ⟨X, d, e⟩ := Below.ext (w := w) (w' := w.alloc (.cells #[.slice a n c, .slice a' p.nA c'] 43)) (by repeat (first | exact Below.refl _ _ | refine Below.drew ?_ | refine Below.alloc ?_ (by first | exact Nat.le_refl _ | (simp; done) | (simp; omega) | omega) _ | refine Below.more ?_ (by first | exact Nat.le_refl _ | (simp; done) | (simp; omega) | omega) _ _ | refine Below.setCell ?_ (by first | exact Nat.le_refl _ | (simp; done) | (simp; omega) | omega) _ | assumption))
    exact ⟨0, d, X, Nat.zero_le _, rfl, rfl, e⟩
  case round =>
    obtain ⟨k, d, X, hk, rfl, rfl, rfl⟩ := hrel
    by_cases hlt : k < n
    · have hk1 : (k : Int) < (n : Int) := by omega
      have hst := countI_take (l := l) (op := op) (k := k) (by rw [HN.out]; exact hlt)
      have hcl : countI (l.take k) op ≤ 1048576 := Nat.le_trans (countI_le _ _) (by rw [List.length_take]; omega)
      obtain ⟨b, o, rfl, hb, hc⟩ := HR.out (by omega)
      have HC := Lib.hid hc
      clear hc
      have c0 : w.cell? ⟨b, o + k * 4, none⟩ = some (.int .i64 (l.getD k default).f0) := HC.out k hlt 0 (by omega)
      have c1 : w.cell? ⟨b, o + k * 4 + 1, none⟩ = some (.string (l.getD k default).f1) := HC.out k hlt 1 (by omega)
      have c2 : w.cell? ⟨b, o + k * 4 + 2, none⟩ = some (.int .i64 (l.getD k default).f2) := HC.out k hlt 2 (by omega)
      have c3 : w.cell? ⟨b, o + k * 4 + 3, none⟩ = some (.slice (A k) (l.getD k default).f3.length (K k)) := HC.out k hlt 3 (by omega)
      generalize l.getD k default = x at *
      have HST := Lib.hid hst
      clear hst
      obtain ⟨X', d', e⟩ := Below.ext (w := w) (w' := (more w X d).alloc (.cells ⟨x.cells (A k) (K k)⟩ 67)) (by repeat (first | exact Below.refl _ _ | refine Below.drew ?_ | refine Below.alloc ?_ (by first | exact Nat.le_refl _ | (simp; done) | (simp; omega) | omega) _ | refine Below.more ?_ (by first | exact Nat.le_refl _ | (simp; done) | (simp; omega) | omega) _ _ | refine Below.setCell ?_ (by first | exact Nat.le_refl _ | (simp; done) | (simp; omega) | omega) _ | assumption))
      have HE := Lib.hid e
      clear e
      by_cases hx : x.f0 = op
      · have hxb : (x.f0 == op) = true := by simpa using hx
        have HX := Lib.hid hx
        clear hx
        go_wp2
        refine ⟨⟨k + 1, d', X', by omega, rfl, ?_, HE.out⟩, by simp only [intOf]; omega⟩
        rw [HST.out, if_pos hxb]; simp
      · have hxb : (x.f0 == op) = false := by simpa using hx
        go_wp2
        refine ⟨⟨k + 1, d', X', by omega, rfl, ?_, HE.out⟩, by simp only [intOf]; omega⟩
        rw [HST.out, if_neg (by simp [hxb])]; simp
    · have hk1 : ¬ (k : Int) < (n : Int) := by omega
      have ht : l.take k = l := List.take_of_length_le (by rw [HN.out]; omega)
      have HT := Lib.hid ht
      clear ht
      go_wp2
      go_ret
      exact ⟨ret_int (by rw [HT.out]), (by repeat (first | exact Below.refl _ _ | refine Below.drew ?_ | refine Below.alloc ?_ (by first | exact Nat.le_refl _ | (simp; done) | (simp; omega) | omega) _ | refine Below.more ?_ (by first | exact Nat.le_refl _ | (simp; done) | (simp; omega) | omega) _ _ | refine Below.setCell ?_ (by first | exact Nat.le_refl _ | (simp; done) | (simp; omega) | omega) _ | assumption))⟩
set_option maxRecDepth 100000 in
set_option maxHeartbeats 1000000 in
theorem spec_CountOp_c (v : Value) (p : ProgD) (op : Int) (w : World) (hr : ProgramR w v p) (hs : ProgramSz 1048576 p) :
    Calls Try.prog 23 #[v, .int .i64 op] w fun e w' => e = .returned (.int .i64 (countI p.nodes op)) ∧ Below w.heap.size w w' := by
  obtain ⟨a, c, a', c', rfl, ⟨A, K, h1, h2⟩, h3⟩ := hr
  obtain ⟨hs1, _⟩ := hs
  have HN := Lib.hid p.hN
  generalize p.nN = n at *
  generalize p.nodes = l at *
  have HR := Lib.hid h1
  clear h1 h2 h3
  go_enter Try.func23, Try.ntmps23
  go_wp2
  go_loopw [5, 11] (fun c i wr => ∃ (k d : Nat) (X : Array Obj), k ≤ n ∧ i = .int .i64 k ∧ c = .int .i64 (countI (l.take k) op) ∧ wr = more w X d) (fun _ i _ => n - (intOf i).toNat)
  case atStart =>
    obtain ⟨X, d, e⟩ := Below.ext (w := w) (w' := w.alloc (.cells #[.slice a n c, .slice a' p.nA c'] 43)) (by repeat (first | exact Below.refl _ _ | refine Below.drew ?_ | refine Below.alloc ?_ (by first | exact Nat.le_refl _ | (simp; done) | (simp; omega) | omega) _ | refine Below.more ?_ (by first | exact Nat.le_refl _ | (simp; done) | (simp; omega) | omega) _ _ | refine Below.setCell ?_ (by first | exact Nat.le_refl _ | (simp; done) | (simp; omega) | omega) _ | assumption))
    exact ⟨0, d, X, Nat.zero_le _, rfl, rfl, e⟩
  case round =>
    obtain ⟨k, d, X, hk, rfl, rfl, rfl⟩ := hrel
    by_cases hlt : k < n
    · have hk1 : (k : Int) < (n : Int) := by omega
      have hst := countI_take (l := l) (op := op) (k := k) (by rw [HN.out]; exact hlt)
      have hcl : countI (l.take k) op ≤ 1048576 := Nat.le_trans (countI_le _ _) (by rw [List.length_take]; omega)
      obtain ⟨b, o, rfl, hb, hc⟩ := HR.out (by omega)
      have HC := Lib.hid hc
      clear hc
      have c0 : w.cell? ⟨b, o + k * 4, none⟩ = some (.int .i64 (l.getD k default).f0) := HC.out k hlt 0 (by omega)
      have c1 : w.cell? ⟨b, o + k * 4 + 1, none⟩ = some (.string (l.getD k default).f1) := HC.out k hlt 1 (by omega)
      have c2 : w.cell? ⟨b, o + k * 4 + 2, none⟩ = some (.int .i64 (l.getD k default).f2) := HC.out k hlt 2 (by omega)
      have c3 : w.cell? ⟨b, o + k * 4 + 3, none⟩ = some (.slice (A k) (l.getD k default).f3.length (K k)) := HC.out k hlt 3 (by omega)
      generalize l.getD k default = x at *
      have HST := Lib.hid hst
      clear hst
      obtain ⟨X', d', e⟩ := Below.ext (w := w) (w' := (more w X d).alloc (.cells ⟨x.cells (A k) (K k)⟩ 67)) (by repeat (first | exact Below.refl _ _ | refine Below.drew ?_ | refine Below.alloc ?_ (by first | exact Nat.le_refl _ | (simp; done) | (simp; omega) | omega) _ | refine Below.more ?_ (by first | exact Nat.le_refl _ | (simp; done) | (simp; omega) | omega) _ _ | refine Below.setCell ?_ (by first | exact Nat.le_refl _ | (simp; done) | (simp; omega) | omega) _ | assumption))
      have HE := Lib.hid e
      clear e
      by_cases hx : x.f0 = op
      · have hxb : (x.f0 == op) = true := by simpa using hx
        have HX := Lib.hid hx
        clear hx
        go_wp2
        refine ⟨⟨k + 1, d', X', by omega, rfl, ?_, HE.out⟩, by simp only [intOf]; omega⟩
        rw [HST.out, if_pos hxb]; simp
      · have hxb : (x.f0 == op) = false := by simpa using hx
        go_wp2
        refine ⟨⟨k + 1, d', X', by omega, rfl, ?_, HE.out⟩, by simp only [intOf]; omega⟩
        rw [HST.out, if_neg (by simp [hxb])]; simp
    · have hk1 : ¬ (k : Int) < (n : Int) := by omega
      have ht : l.take k = l := List.take_of_length_le (by rw [HN.out]; omega)
      have HT := Lib.hid ht
      clear ht
      go_wp2
      go_ret
      exact ⟨ret_int (by rw [HT.out]), (by repeat (first | exact Below.refl _ _ | refine Below.drew ?_ | refine Below.alloc ?_ (by first | exact Nat.le_refl _ | (simp; done) | (simp; omega) | omega) _ | refine Below.more ?_ (by first | exact Nat.le_refl _ | (simp; done) | (simp; omega) | omega) _ _ | refine Below.setCell ?_ (by first | exact Nat.le_refl _ | (simp; done) | (simp; omega) | omega) _ | assumption))⟩
end Go.Proofs.Ytgennnoplmhckaa
