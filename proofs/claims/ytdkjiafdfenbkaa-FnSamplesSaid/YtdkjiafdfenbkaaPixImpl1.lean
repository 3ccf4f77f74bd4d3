/- Contract of pixelSamples at 1 squares on a side. -/
import Derived.Test.YtdkjiafdfenbkaaPixMath
namespace Go.Proofs.Ytdkjiafdfenbkaa
open Go Go.RowKit
set_option maxRecDepth 100000 in
theorem hash_c1 (i j : Int) (k : Nat) (p m : Int) (b1 b2 b3 : Nat) (w : World) (h1 : w.cell? ⟨b1, 0, none⟩ = some (.int .i64 i)) (h2 : w.cell? ⟨b2, 0, none⟩ = some (.int .i64 j)) (h3 : w.cell? ⟨b3, 0, none⟩ = some (.int .i64 (k : Int))) :
    Calls Try.prog 20 #[.int .i64 p, .int .i64 m, .pointer (some ⟨b1, 0, none⟩), .pointer (some ⟨b2, 0, none⟩), .pointer (some ⟨b3, 0, none⟩)] w fun e w' => e = .returned (.int .i64 (hashQ i j k p m)) ∧ Below w.heap.size w w' := by
  go_enter Try.func20, Try.ntmps20
  go_wp2_with (go_at_call 21; refine (impl_HashRange _ [i, j, (k : Int), p] 4 (Lib.hid rfl) _ _ (Row.new _ _ 1 4 4 _ rfl (by decide)) (by decide)).mono ?_; rintro e w' ⟨rfl, rfl⟩)
  go_ret
  exact ⟨rfl, (by repeat (first | exact Below.refl _ _ | refine Below.drew ?_ | refine Below.alloc ?_ (by first | exact Nat.le_refl _ | (simp; done) | (simp; omega) | omega) _ | refine Below.more ?_ (by first | exact Nat.le_refl _ | (simp; done) | (simp; omega) | omega) _ _ | refine Below.setCell ?_ (by first | exact Nat.le_refl _ | (simp; done) | (simp; omega) | omega) _ | assumption))⟩
/-- What a round's region reads: the pixel and the count. -/
@[reducible] def PixS1 (w wr : World) (i j : Int) (k : Nat) (w' : World) : Prop :=
  (w'.cell? ⟨w.heap.size, 0, none⟩ = some (.int .i64 i) ∧ w'.cell? ⟨w.heap.size + 1, 0, none⟩ = some (.int .i64 j)) ∧ w'.cell? ⟨wr.heap.size, 0, none⟩ = some (.int .i64 (k : Int))
theorem hash_s1 (i j : Int) (k : Nat) (p m : Int) (w wr w' : World) (h : PixS1 w wr i j k w') (hw : Below wr.heap.size wr w') :
    Calls Try.prog 20 #[.int .i64 p, .int .i64 m, .pointer (some ⟨w.heap.size, 0, none⟩), .pointer (some ⟨w.heap.size + 1, 0, none⟩), .pointer (some ⟨wr.heap.size, 0, none⟩)] w' fun e w2 => e = .returned (.int .i64 (hashQ i j k p m)) ∧ PixS1 w wr i j k w2 ∧ Below wr.heap.size wr w2 :=
  (hash_c1 i j k p m _ _ _ w' h.1.1 h.1.2 h.2).mono fun _ _ ⟨he, hb⟩ => ⟨he, ⟨⟨cell_below hb h.1.1, cell_below hb h.1.2⟩, cell_below hb h.2⟩, hw.trans (hb.mono hw.size)⟩
set_option maxRecDepth 100000 in
set_option maxHeartbeats 4000000 in
theorem impl_pixelSamples_1 (i j : Int) (i1 : 0 ≤ i) (i2 : i ≤ 11) (j1 : 0 ≤ j) (j2 : j ≤ 11) (w : World) :
    Calls Try.prog 16 #[.int .i64 i, .int .i64 j, .int .i64 1] w (Gives w 5 1 (SampleD.at (samplesF i j 1))) := by
  obtain ⟨i0, hi, hz0, hz1, hz2⟩ := info_parts info_Sample
  go_enter Try.func16, Try.ntmps16
  go_wp2
  go_loopw [8, 17] (fun out c wr => ∃ (k : Nat), k ≤ 1 ∧ c = .int .i64 k ∧ Below w.heap.size w wr ∧ wr.cell? ⟨w.heap.size, 0, none⟩ = some (.int .i64 i) ∧ wr.cell? ⟨w.heap.size + 1, 0, none⟩ = some (.int .i64 j) ∧ wr.ownsRow (w.heap.size + 2) 31 5 out k (flat 5 k (SampleD.at (samplesF i j 1)))) (fun _ c _ => 1 - (intOf c).toNat)
  case atStart => exact ⟨0, by omega, rfl, (by repeat (first | exact Below.refl _ _ | refine Below.drew ?_ | refine Below.alloc ?_ (by first | exact Nat.le_refl _ | (simp; done) | (simp; omega) | omega) _ | refine Below.more ?_ (by first | exact Nat.le_refl _ | (simp; done) | (simp; omega) | omega) _ _ | refine Below.setCell ?_ (by first | exact Nat.le_refl _ | (simp; done) | (simp; omega) | omega) _ | assumption)), by simp [go_sem], by simp [go_sem], by simpa [flat] using World.ownsRow_made (size := 5) ((w.alloc (.cells #[.int .i64 i] 3)).alloc (.cells #[.int .i64 j] 3)) #[] 0 (by simp) (by decide) (by simp)⟩
  case round =>
    obtain ⟨k, hk, rfl, hbel, hc1, hc2, hown⟩ := hrel
    by_cases hlt : k < 1
    · have hk1 : (k : Int) < 1 := by omega
      have HO := Lib.hid hown
      have hz : w.heap.size + 1 < wr.heap.size := World.block_lt_of_cell? _ _ hc2
      have hz' : w.heap.size < wr.heap.size := by omega
      have HR := Lib.hid (show ∀ g, u8.ownBlock = some g → w.heap.size + 2 ≤ g ∧ g < wr.heap.size from fun g hg => hown.lt g hg)
      have HSA := Lib.hid (samplesF_at i j 1 k (by omega))
      clear hown
      obtain ⟨qa, qb, qc, qd, qe, qf, qg, qh⟩ := pixF1 (i := i) (j := j) (k := k) i1 i2 j1 j2 (by omega)
      obtain ⟨ra, rb, rc, rd, re, rf, rg, rh, rl, rm, qn, qo⟩ := pixF (i := i) (j := j) (k := k) (s := 1) (t := 16) (by decide) i1 i2 j1 j2 (by omega)
      clear ra rb rc rd re rf rg rh rl rm
      go_wp2
      go_region_held3 (PixS1 w wr i j k) (first | assumption | exact ⟨⟨q5, q6⟩, q7⟩ | exact ⟨⟨cell_below (Below.alloc (Below.refl _ _) (Nat.le_refl _) _) q1, cell_below (Below.alloc (Below.refl _ _) (Nat.le_refl _) _) q2⟩, cell_below (Below.alloc (Below.refl _ _) (Nat.le_refl _) _) q3⟩ | exact ⟨⟨q1, q2⟩, q3⟩ | (refine ⟨⟨?_, ?_⟩, ?_⟩ <;> first | assumption | (simp [*, go_sem]; done))) (first | (go_at_call 20; refine (hash_s1 i j k _ _ w wr _ ?_ ?_).mono ?_; (first | assumption | exact ⟨⟨q5, q6⟩, q7⟩ | exact ⟨⟨cell_below (Below.alloc (Below.refl _ _) (Nat.le_refl _) _) q1, cell_below (Below.alloc (Below.refl _ _) (Nat.le_refl _) _) q2⟩, cell_below (Below.alloc (Below.refl _ _) (Nat.le_refl _) _) q3⟩ | exact ⟨⟨q1, q2⟩, q3⟩ | (refine ⟨⟨?_, ?_⟩, ?_⟩ <;> first | assumption | (simp [*, go_sem]; done))); (first | assumption | exact (by repeat (first | exact Below.refl _ _ | refine Below.drew ?_ | refine Below.alloc ?_ (by first | exact Nat.le_refl _ | (simp; done) | (simp; omega) | omega) _ | refine Below.more ?_ (by first | exact Nat.le_refl _ | (simp; done) | (simp; omega) | omega) _ _ | refine Below.setCell ?_ (by first | exact Nat.le_refl _ | (simp; done) | (simp; omega) | omega) _ | assumption))); rintro e wz ⟨rfl, q, q4⟩; obtain ⟨⟨q1, q2⟩, q3⟩ := q) | (refine step_append_lies _ (by rfl) _ _ _ (by rfl) (w.heap.size + 2) 31 i0 _ 5 40 Try.underlying28 hi hz0 hz1 hz2 (by rfl) (by decide) u8 k (flat 5 k (SampleD.at (samplesF i j 1))) (by rfl) ?_ _ 1 1 [.int .i64 (i * 16 + hashQ i j k 1 16), .int .i64 (j * 16 + (k : Int) * 16 + hashQ i j k 2 16), .int .i64 (hashQ i j k 3 16), .int .i64 (hashQ i j k 4 33 - 16), .int .i64 (hashQ i j k 5 33 - 16)] (by rfl) (by rfl) ?_ ?_ (by decide) ?_ ?_ ?_ _ (by rfl) ?_; (exact (own_below HO.out q4).alloc _); (exact World.news_of_block (heap_alloc_new _ _)); (intro u hu; simp at hu; rcases hu with rfl | rfl | rfl | rfl | rfl <;> rfl); (simp only [maxLen]; omega); omega; (have := q4.size; simp; omega); intro g cap w1 hown1 hgrow hat hglt; clear hat; have q5 := cell_grown hgrow (fun e => by have := HR.out _ e; omega) (cell_below (Below.alloc (Below.refl _ _) (Nat.le_refl _) _) q1); have q6 := cell_grown hgrow (fun e => by have := HR.out _ e; omega) (cell_below (Below.alloc (Below.refl _ _) (Nat.le_refl _) _) q2); have q7 := cell_grown hgrow (fun e => by have := HR.out _ e; omega) (cell_below (Below.alloc (Below.refl _ _) (Nat.le_refl _) _) q3); have HB1 := Below.grown (Below.alloc (hbel.trans (q4.mono hbel.size)) (by have := q4.size; omega) (.cells ⟨[.int .i64 (i * 16 + hashQ i j k 1 16), .int .i64 (j * 16 + (k : Int) * 16 + hashQ i j k 2 16), .int .i64 (hashQ i j k 3 16), .int .i64 (hashQ i j k 4 33 - 16), .int .i64 (hashQ i j k 5 33 - 16)]⟩ 31)) hgrow (by have := q4.size; simp; omega) (fun g e => by have := HR.out g e; omega)))
      go_wp2
      refine ⟨⟨k + 1, by omega, by go_num, HB1, q5, q6, ?_⟩, by simp only [intOf]; omega⟩
      rw [flat_succ, HSA.out]
      have hcs : (sampleAt i j 1 k).cells = [.int .i64 (i * 16 + hashQ i j k 1 16), .int .i64 (j * 16 + (k : Int) * 16 + hashQ i j k 2 16), .int .i64 (hashQ i j k 3 16), .int .i64 (hashQ i j k 4 33 - 16), .int .i64 (hashQ i j k 5 33 - 16)] := by simp [sampleAt]
      rw [hcs]
      exact hown1
    · have hk' : k = 1 := by omega
      subst hk'
      have HO := Lib.hid hown
      clear hown hk
      go_wp2
      go_ret
      obtain ⟨a', cap', rfl, ho⟩ := ow_of_ownsRow HO.out (flat_get (fun i hi => rfl))
      exact ⟨a', cap', rfl, ho.wide (by omega) (Nat.le_refl _), hbel⟩
end Go.Proofs.Ytdkjiafdfenbkaa
