/- Contracts of what lists the edges of a face. -/
import Derived.Test.YtbmhehjllchpoaaGreatPairs
import Derived.Test.YtbmhehjllchpoaaGreatEdgeSet
namespace Go.Proofs.YtbmhehjllchpoaaGreat
open Go Go.RowKit
def edgeAt (L : List (Int × Int)) (i : Nat) : List Value := [.int .i64 (L.getD i (0, 0)).1, .int .i64 (L.getD i (0, 0)).2]
def edgeVals (L : List (Int × Int)) : List Value := flat 2 L.length (edgeAt L)
theorem edgeVals_snoc (L : List (Int × Int)) (p : Int × Int) : edgeVals (L ++ [p]) = edgeVals L ++ [.int .i64 p.1, .int .i64 p.2] := by
  unfold edgeVals
  rw [List.length_append, List.length_singleton, flat_succ]
  have h1 : flat 2 L.length (edgeAt (L ++ [p])) = flat 2 L.length (edgeAt L) := flat_congr fun i hi => by
    simp only [edgeAt, getD_snoc, if_neg (Nat.ne_of_lt hi)]
  rw [h1]
  simp [edgeAt]
/-- What stands behind place k of a face of four. -/
structure StepF (f : List Int) (k q : Nat) : Prop where
  a : IntKind.i64.wrap ((k : Int) + 1) = (k : Int) + 1
  b : ((k : Int) + 1).tmod 4 = (q : Int)
  c : IntKind.i64.wrap (q : Int) = (q : Int)
  d : q < 4
  e : stepAt f k = (f.getD k 0, f.getD q 0)
theorem stepF {f : List Int} (hf : f.length = 4) {k : Nat} (hk : k < 4) : StepF f k ((k + 1) % 4) := by
  refine ⟨IntWalk.i64_in _ (by omega), ?_, IntWalk.i64_in _ (by omega), Nat.mod_lt _ (by omega), by rw [stepAt, hf]⟩
  rw [Int.tmod_eq_emod_of_nonneg (by omega)]; omega
theorem info_Edge : (Tryz.prog.info? 63).map (fun i => (i.zero, i.size, i.bytes)) = some (some (.agg #[.int .i64 0, .int .i64 0]), 2, 16) := by kernel_rfl
set_option maxRecDepth 100000 in
set_option maxHeartbeats 1000000 in
theorem faceEdges_c (a : Option Addr) (cap : Nat) (f : List Int) (HN : Hid (f.length = 4)) (w : World) (hr : Sl w a 1 4 (intAt f)) :
    Calls Tryz.prog 40 #[.slice a 4 cap] w (Gives w 2 4 (edgeAt (stepsOf f))) := by
  obtain ⟨i0, hi, hz0, hz1, hz2⟩ := info_parts info_Edge
  have HR := Lib.hid hr
  clear hr
  go_enter Tryz.func40, Tryz.ntmps40
  go_wp2
  go_loopw [3, 9] (fun out i wr => ∃ (k d : Nat) (X : Array Obj), k ≤ 4 ∧ i = .int .i64 k ∧ wr = more w X d ∧ (more w X d).ownsRow w.heap.size 63 2 out k (edgeVals (stepsTo f k))) (fun _ i _ => 4 - (intOf i).toNat)
  case atStart =>
    obtain ⟨X, d, e⟩ := Below.ext (w := w) (w' := w.alloc (.cells #[] 63)) (by repeat (first | exact Below.refl _ _ | refine Below.drew ?_ | refine Below.alloc ?_ (by first | exact Nat.le_refl _ | (simp; done) | (simp; omega) | omega) _ | refine Below.more ?_ (by first | exact Nat.le_refl _ | (simp; done) | (simp; omega) | omega) _ _ | refine Below.setCell ?_ (by first | exact Nat.le_refl _ | (simp; done) | (simp; omega) | omega) _ | assumption))
    refine ⟨0, d, X, Nat.zero_le _, rfl, e, ?_⟩
    rw [← e]
    exact World.ownsRow_made (size := 2) w #[] 0 (Nat.le_refl _) (by decide) (by simp)
  case round =>
    obtain ⟨k, d, X, hk, rfl, rfl, hown⟩ := hrel
    by_cases hlt : k < 4
    · have hk1 : (k : Int) < 4 := by omega
      have SF := Lib.hid (stepF HN.out hlt)
      obtain ⟨t1, t2, t3, t4, _⟩ := stepF HN.out hlt
      obtain ⟨b, o, rfl, hb, hc⟩ := HR.out (by omega)
      have HC := Lib.hid (show ∀ j, j < 4 → w.cell? ⟨b, o + j, none⟩ = some (.int .i64 (f.getD j 0)) from fun j hj => by
        have := hc j hj 0 (by omega)
        rw [Nat.mul_one, Nat.add_zero] at this
        rw [this]; simp [intAt])
      clear hc
      generalize (k + 1) % 4 = q at *
      have t5 : (q : Int) < 4 := by omega
      have c0 := HC.out k hlt
      have c1 := HC.out q t4
      have HST := Lib.hid (show edgeVals (stepsTo f (k + 1)) = edgeVals (stepsTo f k) ++ [.int .i64 (f.getD k 0), .int .i64 (f.getD q 0)] by rw [stepsTo_succ, edgeVals_snoc, SF.out.e])
      generalize f.getD k 0 = x at *
      generalize f.getD q 0 = y at *
      generalize edgeVals (stepsTo f k) = xs at *
      go_wp2_with (at_builtin; go_loud (refine wpList_append_more w ?b0 rfl _ _ 60 rfl 63 i0 _ 2 16 Tryz.underlying60 hi hz0 hz1 hz2 rfl (by decide) _ _ _ rfl (hown.alloc _) _ 1 1 [.int .i64 x, .int .i64 y] rfl rfl ?b2 ?b3 ?b4 ?b5 ?_))
      case b0 => exact (by repeat (first | exact Below.refl _ _ | refine Below.drew ?_ | refine Below.alloc ?_ (by first | exact Nat.le_refl _ | (simp; done) | (simp; omega) | omega) _ | refine Below.more ?_ (by first | exact Nat.le_refl _ | (simp; done) | (simp; omega) | omega) _ _ | refine Below.setCell ?_ (by first | exact Nat.le_refl _ | (simp; done) | (simp; omega) | omega) _ | assumption))
      case b2 =>
        intro j u hu
        match j, hu with
        | 0, hu =>
          obtain rfl : Value.int .i64 x = u := by simpa using hu
          simp [go_sem]
        | 1, hu =>
          obtain rfl : Value.int .i64 y = u := by simpa using hu
          simp [go_sem]
        | j + 2, hu => simp at hu
      case b3 =>
        intro u hu
        simp only [List.mem_cons, List.not_mem_nil, or_false] at hu
        rcases hu with rfl | rfl <;> rfl
      case b4 => simp only [maxLen]; omega
      case b5 => omega
      intro v' X' d' hown' hnn
      go_wp2
      refine ⟨⟨k + 1, d', X', by omega, rfl, rfl, ?_⟩, by simp only [intOf]; omega⟩
      rw [HST.out]
      exact hown'
    · have hk1 : ¬ (k : Int) < 4 := by omega
      go_wp2
      go_ret
      obtain rfl : k = 4 := by omega
      have e : edgeVals (stepsTo f 4) = flat 2 4 (edgeAt (stepsOf f)) := by rw [edgeVals, stepsTo_len, stepsOf, HN.out]
      rw [e] at hown
      exact gives_of_flat hown (fun _ _ => rfl) (by repeat (first | exact Below.refl _ _ | refine Below.drew ?_ | refine Below.alloc ?_ (by first | exact Nat.le_refl _ | (simp; done) | (simp; omega) | omega) _ | refine Below.more ?_ (by first | exact Nat.le_refl _ | (simp; done) | (simp; omega) | omega) _ _ | refine Below.setCell ?_ (by first | exact Nat.le_refl _ | (simp; done) | (simp; omega) | omega) _ | assumption))
set_option maxRecDepth 100000 in
set_option maxHeartbeats 1000000 in
theorem l06Steps_c (a : Option Addr) (cap : Nat) (f : List Int) (HN : Hid (f.length = 4)) (w : World) (hr : Sl w a 1 4 (intAt f)) :
    Calls Tryz.prog 31 #[.slice a 4 cap] w fun e w' => ∃ v, e = .returned v ∧ PairRow w' w.heap.size v (stepsOf f) ∧ Below w.heap.size w w' := by
  have HR := Lib.hid hr
  clear hr
  go_enter Tryz.func31, Tryz.ntmps31
  go_wp2
  go_loopw [3, 9] (fun out i wr => ∃ (k : Nat), k ≤ 4 ∧ i = .int .i64 k ∧ Below w.heap.size w wr ∧ PairRow wr w.heap.size out (stepsTo f k)) (fun _ i _ => 4 - (intOf i).toNat)
  case atStart => exact ⟨0, Nat.zero_le _, rfl, (by repeat (first | exact Below.refl _ _ | refine Below.drew ?_ | refine Below.alloc ?_ (by first | exact Nat.le_refl _ | (simp; done) | (simp; omega) | omega) _ | refine Below.more ?_ (by first | exact Nat.le_refl _ | (simp; done) | (simp; omega) | omega) _ _ | refine Below.setCell ?_ (by first | exact Nat.le_refl _ | (simp; done) | (simp; omega) | omega) _ | assumption)), PairRow.nil (Nat.le_refl _) (heap_at_new rfl)⟩
  case round =>
    obtain ⟨k, hk, rfl, hbel, hpr⟩ := hrel
    have HBEL := Lib.hid hbel
    have HPR := Lib.hid hpr
    have hbs := hbel.size
    clear hbel hpr
    by_cases hlt : k < 4
    · have hk1 : (k : Int) < 4 := by omega
      have SF := Lib.hid (stepF HN.out hlt)
      obtain ⟨t1, t2, t3, t4, _⟩ := stepF HN.out hlt
      obtain ⟨b, o, rfl, hb, hc⟩ := HR.out.below HBEL.out (by omega)
      have HC := Lib.hid (show ∀ j, j < 4 → wr.cell? ⟨b, o + j, none⟩ = some (.int .i64 (f.getD j 0)) from fun j hj => by
        have := hc j hj 0 (by omega)
        rw [Nat.mul_one, Nat.add_zero] at this
        rw [this]; simp [intAt])
      clear hc
      generalize (k + 1) % 4 = q at *
      have t5 : (q : Int) < 4 := by omega
      have c0 := HC.out k hlt
      have c1 := HC.out q t4
      have HST := Lib.hid (show stepsTo f (k + 1) = stepsTo f k ++ [(f.getD k 0, f.getD q 0)] by rw [stepsTo_succ, SF.out.e])
      have hlen : (stepsTo f k).length ≤ 1048576 := by rw [stepsTo_len]; omega
      generalize f.getD k 0 = x at *
      generalize f.getD q 0 = y at *
      generalize stepsTo f k = xs at *
      go_wp2_with (at_builtin; go_loud (refine wpList_append_pair _ rfl _ _ rfl w.heap.size _ xs rfl (HPR.out.below (by repeat (first | exact Below.refl _ _ | refine Below.drew ?_ | refine Below.alloc ?_ (by first | exact Nat.le_refl _ | (simp; done) | (simp; omega) | omega) _ | refine Below.more ?_ (by first | exact Nat.le_refl _ | (simp; done) | (simp; omega) | omega) _ _ | refine Below.setCell ?_ (by first | exact Nat.le_refl _ | (simp; done) | (simp; omega) | omega) _ | assumption))) _ 1 rfl wr.heap.size ?b2 (x, y) ?b3 hlen ?b4 ?_))
      case b2 => simp [go_sem]
      case b3 => exact ⟨_, rfl, (heap_alloc_old _ _ (by simp)).trans (heap_alloc_new _ _)⟩
      case b4 => simp; omega
      intro v' w' hp' hg hloc hrow
      have HP' := Lib.hid hp'
      have hlt2 := fun b hb => (HPR.out.lt b hb).1
      have HB' := Lib.hid (Below.grown (Below.trans HBEL.out (by repeat (first | exact Below.refl _ _ | refine Below.drew ?_ | refine Below.alloc ?_ (by first | exact Nat.le_refl _ | (simp; done) | (simp; omega) | omega) _ | refine Below.more ?_ (by first | exact Nat.le_refl _ | (simp; done) | (simp; omega) | omega) _ _ | refine Below.setCell ?_ (by first | exact Nat.le_refl _ | (simp; done) | (simp; omega) | omega) _ | assumption))) hg (by simp; omega) hlt2)
      clear hp' hg hloc hrow hlt2
      go_wp2
      refine ⟨⟨k + 1, by omega, rfl, HB'.out, ?_⟩, by simp only [intOf]; omega⟩
      rw [HST.out]
      exact HP'.out
    · have hk1 : ¬ (k : Int) < 4 := by omega
      obtain rfl : k = 4 := by omega
      go_wp2
      go_ret
      refine ⟨_, rfl, ?_, HBEL.out⟩
      rw [stepsOf, HN.out]
      exact HPR.out
end Go.Proofs.YtbmhehjllchpoaaGreat
