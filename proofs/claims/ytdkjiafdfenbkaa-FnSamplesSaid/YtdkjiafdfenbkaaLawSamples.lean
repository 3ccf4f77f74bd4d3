/- The walk of the law FnSamples: every square of a pixel contains exactly one sample. -/
import Derived.Test.YtdkjiafdfenbkaaPixSamples
import Derived.Test.YtdkjiafdfenbkaaLawIsValidSample
import Derived.Test.YtdkjiafdfenbkaaMake
import Derived.Test.YtdkjiafdfenbkaaOpen
import Derived.Deep.RegionHeld3
namespace Go.Proofs.Ytdkjiafdfenbkaa
open Go Go.RowKit Go.ChangeShapes
set_option linter.unusedVariables false
theorem sam_q {i q s t h : Int} (hs : (s = 1 ∧ t = 16) ∨ (s = 2 ∧ t = 8) ∨ (s = 4 ∧ t = 4)) (hi : 0 ≤ i) (hq : 0 ≤ q ∧ q < s) (hh : 0 ≤ h ∧ h < t) :
    (i * 16 + q * t + h) / 16 = i ∧ i * 16 ≤ i * 16 + q * t + h ∧ i * 16 + q * t + h ≤ i * 16 + 15 ∧ (i * 16 + q * t + h - i * 16).tdiv t = q := by
  rcases hs with ⟨rfl, rfl⟩ | ⟨rfl, rfl⟩ | ⟨rfl, rfl⟩
  all_goals
    refine ⟨by omega, by omega, by omega, ?_⟩
    rw [Int.tdiv_eq_ediv_of_nonneg (by omega)]
    omega
/-- What the law asks of sample k. -/
structure SamF (i j : Int) (s t : Int) (k : Nat) (x : SampleD) : Prop where
  a : x.f0 / 16 = i ∧ i * 16 ≤ x.f0 ∧ x.f0 ≤ i * 16 + 15 ∧ (x.f0 - i * 16).tdiv t = (k : Int) % s
  b : x.f1 / 16 = j ∧ j * 16 ≤ x.f1 ∧ x.f1 ≤ j * 16 + 15 ∧ (x.f1 - j * 16).tdiv t = (k : Int) / s
  c : 0 ≤ x.f2 ∧ x.f2 ≤ 15
  d : -16 ≤ x.f3 ∧ x.f3 ≤ 16
  e : -16 ≤ x.f4 ∧ x.f4 ≤ 16
theorem samF {i j : Int} {s : Nat} {t : Int} {k : Nat} (hs : ((s : Int) = 1 ∧ t = 16) ∨ ((s : Int) = 2 ∧ t = 8) ∨ ((s : Int) = 4 ∧ t = 4)) (hi : 0 ≤ i) (hj : 0 ≤ j) (hk : (k : Int) < s * s) : SamF i j s t k (sampleAt i j s k) := by
  have ht : (16 : Int) / (s : Int) = t := by rcases hs with ⟨h, rfl⟩ | ⟨h, rfl⟩ | ⟨h, rfl⟩ <;> rw [h] <;> rfl
  have hr : 0 ≤ (k : Int) % (s : Int) ∧ (k : Int) % (s : Int) < s := ⟨Int.emod_nonneg _ (by omega), Int.emod_lt_of_pos _ (by omega)⟩
  have hd : 0 ≤ (k : Int) / (s : Int) ∧ (k : Int) / (s : Int) < s := ⟨Int.ediv_nonneg (by omega) (by omega), Int.ediv_lt_of_lt_mul (by omega) hk⟩
  have h1 : 0 ≤ hashQ i j k 1 t ∧ hashQ i j k 1 t < t := hashR_bd _ _ (by omega)
  have h2 : 0 ≤ hashQ i j k 2 t ∧ hashQ i j k 2 t < t := hashR_bd _ _ (by omega)
  have h3 : 0 ≤ hashQ i j k 3 16 ∧ hashQ i j k 3 16 < 16 := hashR_bd _ _ (by omega)
  have h4 : 0 ≤ hashQ i j k 4 33 ∧ hashQ i j k 4 33 < 33 := hashR_bd _ _ (by omega)
  have h5 : 0 ≤ hashQ i j k 5 33 ∧ hashQ i j k 5 33 < 33 := hashR_bd _ _ (by omega)
  simp only [sampleAt, ht]
  exact ⟨sam_q hs hi hr h1, sam_q hs hj hd h2, by dsimp only; omega, by dsimp only; omega, by dsimp only; omega⟩
theorem samQ {i j : Int} {s t : Int} {k : Nat} {x : SampleD} (h : SamF i j s t k x) {W H Z N L F : Int} (D : Bool) (hc : camOk W H Z N L F = true) (hi : 0 ≤ i ∧ i < W) (hj : 0 ≤ j ∧ j < H) :
    (∀ w, Calls Try.prog 7 #[camV W H Z N D L F, .int .i64 x.f0, .int .i64 x.f1] w fun e w' => e = .returned (.tuple #[.int .i64 i, .int .i64 j, .bool true]) ∧ Below w.heap.size w w') ∧
    (∀ w, Calls Try.prog 8 #[camV W H Z N D L F, .agg #[.int .i64 x.f0, .int .i64 x.f1, .int .i64 x.f2, .int .i64 x.f3, .int .i64 x.f4]] w fun e w' => e = .returned (.bool true) ∧ Below w.heap.size w w') := by
  obtain ⟨a1, a2, a3, _⟩ := h.a
  obtain ⟨b1, b2, b3, _⟩ := h.b
  have hp : pixOk W H Z N L F x.f0 x.f1 = true := by
    simp only [pixOk, hc, Bool.true_and, Bool.and_eq_true, inB_true]
    omega
  refine ⟨fun w => ?_, fun w => ?_⟩
  · have := impl_PixelAt W H Z N D L F x.f0 x.f1 w
    simpa only [pixV, pixA, hp, if_true, a1, b1] using this
  · have := impl_IsValidSample W H Z N D L F x.f0 x.f1 x.f2 x.f3 x.f4 w
    have he : samOk (pixOk W H Z N L F x.f0 x.f1) x.f2 x.f3 x.f4 = true := by
      simp only [samOk, hp, Bool.true_and, Bool.and_eq_true, inB_true]
      exact ⟨⟨h.c, h.d⟩, h.e⟩
    rwa [he] at this
set_option maxRecDepth 100000 in
set_option maxHeartbeats 8000000 in
theorem law_Samples {H : Type} {enc : TypeId × Value → H} {W : World} {base : Nat} {v0 : Value} {d0 : DataW H} {p0 : List MemPlace}
    (k0 : Value.okWide Try.prog W .any base 22 v0) (h0 : DataW.Trod enc Try.prog W 0 (fun _ => true) true 22 v0 d0 p0) :
    Calls Try.prog 3 #[v0] W fun e W' => e = .returned (.bool true) ∧ Below W.heap.size W W' := by
  obtain ⟨a, cap, C, n, rfl, HB, hn⟩ := open_bytes k0 h0
  clear k0 h0
  by_cases hbig : n ≤ 1048576
  · have hb1 : ¬ (n : Int) > 1048576 := by omega
    go_enter Try.func3, Try.ntmps3
    go_wp2_with fail
    refine (MakeCamera_c a n cap C _ HB.out hbig).mono ?_
    rintro e w1 ⟨cW, cH, cZ, cN, cD, cL, cF, hcb, rfl, B1⟩
    have B1' := Lib.hid (Below.alloc B1 B1.size (.cells #[.int .i64 cW, .int .i64 cH, .int .i64 cZ, .int .i64 cN, .bool cD, .int .i64 cL, .int .i64 cF] 24))
    have hs1 := B1.size
    have hcam : camOk cW cH cZ cN cL cF = true := by
      obtain ⟨⟨_, _⟩, ⟨_, _⟩, ⟨_, _⟩, ⟨_, _⟩, ⟨_, _⟩, ⟨_, _⟩⟩ := hcb
      simp only [camOk, Bool.and_eq_true, inB_true]
      omega
    have HCAM := Lib.hid hcam
    obtain ⟨⟨cw1, cw2⟩, ⟨ch1, ch2⟩, _⟩ := hcb
    have hW0 : ¬ cW = 0 := by omega
    have hH0 : ¬ cH = 0 := by omega
    clear B1 hcam
    go_wp2_with fail
    refine (MakeNum_k a n cap C 1 _ (HB.out.below (Below.trans B1'.out (Below.mono (show Below (w1.heap.size + 1) (w1.alloc (.cells #[.int .i64 cW, .int .i64 cH, .int .i64 cZ, .int .i64 cN, .bool cD, .int .i64 cL, .int .i64 cF] 24)) _ from (by repeat (first | exact Below.refl _ _ | refine Below.drew ?_ | refine Below.alloc ?_ (by first | exact Nat.le_refl _ | (simp; done) | (simp; omega) | omega) _ | refine Below.more ?_ (by first | exact Nat.le_refl _ | (simp; done) | (simp; omega) | omega) _ _ | refine Below.setCell ?_ (by first | exact Nat.le_refl _ | (simp; done) | (simp; omega) | omega) _ | assumption))) (by omega)))) hbig (by omega) (by omega)).mono ?_
    rintro e w2 ⟨x, x1, x2, rfl, b2⟩
    have har : w2.heap[w1.heap.size + 1]? = some (.cells #[.int .i64 1, .int .i64 2, .int .i64 4] 3 (0, 0)) := by rw [b2.block _ (by simp)]; exact heap_at_new (by simp)
    have hca : w2.heap[w1.heap.size]? = some (.cells #[.int .i64 cW, .int .i64 cH, .int .i64 cZ, .int .i64 cN, .bool cD, .int .i64 cL, .int .i64 cF] 24 (0, 0)) := by
      rw [b2.block _ (by simp; omega), Below.block (Below.alloc (Below.refl _ _) (Nat.le_refl _) _) _ (by simp), heap_alloc_new]
    have B2 := Lib.hid (show Below W.heap.size W w2 from Below.trans B1'.out (Below.mono (Below.trans (show Below (w1.heap.size + 1) (w1.alloc (.cells #[.int .i64 cW, .int .i64 cH, .int .i64 cZ, .int .i64 cN, .bool cD, .int .i64 cL, .int .i64 cF] 24)) _ from (by repeat (first | exact Below.refl _ _ | refine Below.drew ?_ | refine Below.alloc ?_ (by first | exact Nat.le_refl _ | (simp; done) | (simp; omega) | omega) _ | refine Below.more ?_ (by first | exact Nat.le_refl _ | (simp; done) | (simp; omega) | omega) _ _ | refine Below.setCell ?_ (by first | exact Nat.le_refl _ | (simp; done) | (simp; omega) | omega) _ | assumption))) (b2.mono (by first | (simp; done) | (simp; omega)))) (by omega)))
    have l1 : w1.heap.size < w2.heap.size := (Array.getElem?_eq_some_iff.1 hca).1
    have l2 : w1.heap.size + 1 < w2.heap.size := (Array.getElem?_eq_some_iff.1 har).1
    have c0 : w2.cell? ⟨w1.heap.size, 0, none⟩ = some (.int .i64 cW) := by rw [cell_of_row w2 _ 0 _ _ (0, 0) hca]; rfl
    have c1 : w2.cell? ⟨w1.heap.size, 1, none⟩ = some (.int .i64 cH) := by rw [cell_of_row w2 _ 1 _ _ (0, 0) hca]; rfl
    have c2 : w2.cell? ⟨w1.heap.size, 2, none⟩ = some (.int .i64 cZ) := by rw [cell_of_row w2 _ 2 _ _ (0, 0) hca]; rfl
    have c3 : w2.cell? ⟨w1.heap.size, 3, none⟩ = some (.int .i64 cN) := by rw [cell_of_row w2 _ 3 _ _ (0, 0) hca]; rfl
    have c5 : w2.cell? ⟨w1.heap.size, 5, none⟩ = some (.int .i64 cL) := by rw [cell_of_row w2 _ 5 _ _ (0, 0) hca]; rfl
    have c6 : w2.cell? ⟨w1.heap.size, 6, none⟩ = some (.int .i64 cF) := by rw [cell_of_row w2 _ 6 _ _ (0, 0) hca]; rfl
    have c4 : w2.cell? ⟨w1.heap.size, 4, none⟩ = some (.bool cD) := by rw [cell_of_row w2 _ 4 _ _ (0, 0) hca]; rfl
    obtain ⟨y, hx2, hy4⟩ : ∃ y : Nat, x % 3 = (y : Int) ∧ y < 3 := ⟨(x % 3).toNat, by omega, by omega⟩
    have hx1 : x.tmod 3 = (y : Int) := by rw [Int.tmod_eq_emod_of_nonneg x1]; exact hx2
    have hyi : (y : Int) < 3 := by omega
    obtain ⟨s, hN, gN⟩ : ∃ s : Nat, (s = 1 ∨ s = 2 ∨ s = 4) ∧ w2.cell? ⟨w1.heap.size + 1, y, none⟩ = some (.int .i64 (s : Int)) := by
      have hy : y = 0 ∨ y = 1 ∨ y = 2 := by omega
      rcases hy with rfl | rfl | rfl
      · exact ⟨1, by decide, by rw [cell_of_row w2 _ _ _ _ (0, 0) har]; rfl⟩
      · exact ⟨2, by decide, by rw [cell_of_row w2 _ _ _ _ (0, 0) har]; rfl⟩
      · exact ⟨4, by decide, by rw [cell_of_row w2 _ _ _ _ (0, 0) har]; rfl⟩
    have HNs := Lib.hid hN
    have HB2 := Lib.hid (HB.out.below B2.out)
    clear har hca b2 B1' HB hN
    go_wp2
    go_region_held3 (fun w' => w'.cell? ⟨w1.heap.size, 0, none⟩ = some (.int .i64 cW)) (first | assumption | go_keep) (first | (go_at_call 5; refine (MakeNum_k a n cap C 2 _ (HB2.out.below (by repeat (first | exact Below.refl _ _ | refine Below.drew ?_ | refine Below.alloc ?_ (by first | exact Nat.le_refl _ | (simp; done) | (simp; omega) | omega) _ | refine Below.more ?_ (by first | exact Nat.le_refl _ | (simp; done) | (simp; omega) | omega) _ _ | refine Below.setCell ?_ (by first | exact Nat.le_refl _ | (simp; done) | (simp; omega) | omega) _ | assumption))) hbig (by omega) (by omega)).mono ?_; rintro e w3 ⟨xi, xi1, xi2, rfl, b3⟩; have b23 : Below w2.heap.size w2 w3 := (show Below w2.heap.size w2 _ from (by repeat (first | exact Below.refl _ _ | refine Below.drew ?_ | refine Below.alloc ?_ (by first | exact Nat.le_refl _ | (simp; done) | (simp; omega) | omega) _ | refine Below.more ?_ (by first | exact Nat.le_refl _ | (simp; done) | (simp; omega) | omega) _ _ | refine Below.setCell ?_ (by first | exact Nat.le_refl _ | (simp; done) | (simp; omega) | omega) _ | assumption))).trans (b3.mono (by first | (simp; done) | (simp; omega))); have qxi := Int.tmod_eq_emod_of_nonneg (b := cW) xi1; have c03 := cell_below b23 c0; clear b3))
    replace c0 := c03
    replace c1 := cell_below b23 c1
    replace c2 := cell_below b23 c2
    replace c3 := cell_below b23 c3
    replace c4 := cell_below b23 c4
    replace c5 := cell_below b23 c5
    replace c6 := cell_below b23 c6
    have HB3 := Lib.hid (HB2.out.below b23)
    have B3 := Lib.hid (B2.out.trans (b23.mono B2.out.size))
    have hI : 0 ≤ xi % cW ∧ xi % cW < cW := ⟨Int.emod_nonneg _ hW0, Int.emod_lt_of_pos _ (by omega)⟩
    generalize xi % cW = i at *
    have l3 : w1.heap.size < w3.heap.size := World.block_lt_of_cell? _ _ c0
    clear b23 c03 gN qxi HB2 B2 xi1 xi2 l2
    go_wp2
    go_region_held3 (fun w' => w'.cell? ⟨w1.heap.size, 1, none⟩ = some (.int .i64 cH)) (first | assumption | go_keep) (first | (go_at_call 5; refine (MakeNum_k a n cap C 3 _ (HB3.out.below (by repeat (first | exact Below.refl _ _ | refine Below.drew ?_ | refine Below.alloc ?_ (by first | exact Nat.le_refl _ | (simp; done) | (simp; omega) | omega) _ | refine Below.more ?_ (by first | exact Nat.le_refl _ | (simp; done) | (simp; omega) | omega) _ _ | refine Below.setCell ?_ (by first | exact Nat.le_refl _ | (simp; done) | (simp; omega) | omega) _ | assumption))) hbig (by omega) (by omega)).mono ?_; rintro e w4 ⟨xj, xj1, xj2, rfl, b4⟩; have b34 : Below w3.heap.size w3 w4 := (show Below w3.heap.size w3 _ from (by repeat (first | exact Below.refl _ _ | refine Below.drew ?_ | refine Below.alloc ?_ (by first | exact Nat.le_refl _ | (simp; done) | (simp; omega) | omega) _ | refine Below.more ?_ (by first | exact Nat.le_refl _ | (simp; done) | (simp; omega) | omega) _ _ | refine Below.setCell ?_ (by first | exact Nat.le_refl _ | (simp; done) | (simp; omega) | omega) _ | assumption))).trans (b4.mono (by first | (simp; done) | (simp; omega))); have qxj := Int.tmod_eq_emod_of_nonneg (b := cH) xj1; have c14 := cell_below b34 c1; clear b4))
    replace c0 := cell_below b34 c0
    replace c1 := c14
    replace c2 := cell_below b34 c2
    replace c3 := cell_below b34 c3
    replace c4 := cell_below b34 c4
    replace c5 := cell_below b34 c5
    replace c6 := cell_below b34 c6
    have B4 := Lib.hid (B3.out.trans (b34.mono B3.out.size))
    have hJ : 0 ≤ xj % cH ∧ xj % cH < cH := ⟨Int.emod_nonneg _ hH0, Int.emod_lt_of_pos _ (by omega)⟩
    generalize xj % cH = j at *
    have l4 : w1.heap.size < w4.heap.size := World.block_lt_of_cell? _ _ c0
    clear b34 c14 qxj HB3 B3 xj1 xj2
    obtain ⟨i1, i2⟩ := hI
    obtain ⟨j1, j2⟩ := hJ
    have hsOk : sampOk cW cH cZ cN cL cF i j (s : Int) = true := by
      have hs : sideB (s : Int) = true := by rcases HNs.out with rfl | rfl | rfl <;> rfl
      simp only [sampOk, HCAM.out, hs, Bool.true_and, Bool.and_true, Bool.and_eq_true, inB_true]
      omega
    have HSN := Lib.hid (show samplesN cW cH cZ cN cL cF i j (s : Int) = s * s by
      unfold samplesN
      rw [if_pos hsOk]
      rcases HNs.out with rfl | rfl | rfl <;> rfl)
    have HPX := Lib.hid (fun w => impl_PixelSamples_c cW cH cZ cN cD cL cF i j (s : Int) w)
    have HSM := Lib.hid (fun (k : Nat) (t : Int) ht (hk : (k : Int) < (s : Int) * (s : Int)) => samF (i := i) (j := j) (s := s) (t := t) (k := k) ht i1 j1 hk)
    have HSQ := Lib.hid (fun (k : Nat) (t : Int) (x : SampleD) (h : SamF i j (s : Int) t k x) => samQ h cD HCAM.out ⟨i1, i2⟩ ⟨j1, j2⟩)
    have HSA := Lib.hid (show ∀ k : Nat, k < 16 → SampleD.at (samplesL cW cH cZ cN cL cF i j (s : Int)) k = (sampleAt i j s k).cells from fun k hk => by
      unfold samplesL
      rw [Int.toNat_natCast]
      exact samplesF_at i j s k hk)
    clear hsOk
    go_wp2_with fail
    refine (HPX.out _).mono ?_
    rintro e w5 ⟨pa, pcap, rfl, ho, b5⟩
    rw [HSN.out] at ho ⊢
    have HO := Lib.hid (ho.sl)
    have B5 := Lib.hid (B4.out.trans (b5.mono B4.out.size))
    replace c0 := cell_below b5 c0
    replace c1 := cell_below b5 c1
    replace c2 := cell_below b5 c2
    replace c3 := cell_below b5 c3
    replace c4 := cell_below b5 c4
    replace c5 := cell_below b5 c5
    replace c6 := cell_below b5 c6
    have l5 : w1.heap.size < w5.heap.size := World.block_lt_of_cell? _ _ c0
    have qi : IntKind.i64.wrap (i * 16) = i * 16 := IntWalk.i64_in _ (by omega)
    have qj : IntKind.i64.wrap (j * 16) = j * 16 := IntWalk.i64_in _ (by omega)
    clear ho b5 HPX HSN l3 l4 B4
    obtain ⟨t, ht⟩ : ∃ t : Int, ((s : Int) = 1 ∧ t = 16) ∨ ((s : Int) = 2 ∧ t = 8) ∨ ((s : Int) = 4 ∧ t = 4) := by
      rcases HNs.out with rfl | rfl | rfl
      · exact ⟨16, .inl ⟨rfl, rfl⟩⟩
      · exact ⟨8, .inr (.inl ⟨rfl, rfl⟩)⟩
      · exact ⟨4, .inr (.inr ⟨rfl, rfl⟩)⟩
    have HT := Lib.hid ht
    have hs0 : ¬ (s : Int) = 0 := by omega
    have hs0' : ¬ s = 0 := by omega
    have ht0 : ¬ t = 0 := by omega
    have q16a : (16 : Int).tdiv (s : Int) = t := by rcases ht with ⟨h, rfl⟩ | ⟨h, rfl⟩ | ⟨h, rfl⟩ <;> rw [h] <;> rfl
    have q16b : (16 : Int) / (s : Int) = t := by rcases ht with ⟨h, rfl⟩ | ⟨h, rfl⟩ | ⟨h, rfl⟩ <;> rw [h] <;> rfl
    have q16w : IntKind.i64.wrap t = t := IntWalk.i64_in _ (by omega)
    have hss : s * s ≤ 16 := by rcases HNs.out with rfl | rfl | rfl <;> decide
    have qss : IntKind.i64.wrap ((s : Int) * (s : Int)) = ((s * s : Nat) : Int) := by
      rw [← Int.natCast_mul]
      exact IntWalk.i64_in _ (by omega)
    have HM := Lib.hid (show ((s * s : Nat) : Int) = (s : Int) * (s : Int) from Int.natCast_mul _ _)
    clear ht
    generalize s * s = m at *
    have hmm : ((m : Int) == (m : Int)) = true := by simp
    go_wp2
    go_loopw [44] (fun c wr => ∃ k : Nat, k ≤ m ∧ c = .int .i64 k ∧ Below w5.heap.size w5 wr) (fun c _ => m - (intOf c).toNat)
    case atStart => exact ⟨0, by omega, rfl, Below.refl _ _⟩
    case round =>
      obtain ⟨k, hk, rfl, hbel⟩ := hrel
      have HBEL := Lib.hid hbel
      replace c0 := cell_below hbel c0
      replace c1 := cell_below hbel c1
      replace c2 := cell_below hbel c2
      replace c3 := cell_below hbel c3
      replace c4 := cell_below hbel c4
      replace c5 := cell_below hbel c5
      replace c6 := cell_below hbel c6
      have l6 : w1.heap.size < wr.heap.size := World.block_lt_of_cell? _ _ c0
      by_cases hlt : k < m
      · have hlt1 : (k : Int) < (m : Int) := by omega
        obtain ⟨b, o, rfl, hb, hc⟩ := (HO.out.below hbel) (by omega)
        have hk16 : k < 16 := by omega
        have hf := HSM.out k t HT.out (by rw [← HM.out]; exact hlt1)
        have hq := HSQ.out k t _ hf
        have e0 := hc k hlt 0 (by omega)
        have e1 := hc k hlt 1 (by omega)
        have e2 := hc k hlt 2 (by omega)
        have e3 := hc k hlt 3 (by omega)
        have e4 := hc k hlt 4 (by omega)
        rw [HSA.out k hk16] at e0 e1 e2 e3 e4
        obtain ⟨fa, fb, _, _, _⟩ := hf
        clear hc hbel
        generalize sampleAt i j s k = x at *
        obtain ⟨x0, x1', x2', x3, x4⟩ := x
        replace e0 : wr.cell? ⟨b, o + k * 5, none⟩ = some (.int .i64 x0) := e0
        replace e1 : wr.cell? ⟨b, o + k * 5 + 1, none⟩ = some (.int .i64 x1') := e1
        replace e2 : wr.cell? ⟨b, o + k * 5 + 2, none⟩ = some (.int .i64 x2') := e2
        replace e3 : wr.cell? ⟨b, o + k * 5 + 3, none⟩ = some (.int .i64 x3) := e3
        replace e4 : wr.cell? ⟨b, o + k * 5 + 4, none⟩ = some (.int .i64 x4) := e4
        dsimp only at fa fb hq
        obtain ⟨fa1, fa2, fa3, fa4⟩ := fa
        obtain ⟨fb1, fb2, fb3, fb4⟩ := fb
        have HPA := Lib.hid hq.1
        have HIS := Lib.hid hq.2
        have qa : IntKind.i64.wrap (x0 - i * 16) = x0 - i * 16 := IntWalk.i64_in _ (by omega)
        have qb : IntKind.i64.wrap (x1' - j * 16) = x1' - j * 16 := IntWalk.i64_in _ (by omega)
        have m1 : (k : Int).tmod (s : Int) = (k : Int) % (s : Int) := Int.tmod_eq_emod_of_nonneg (by omega)
        have m2 : (k : Int).tdiv (s : Int) = (k : Int) / (s : Int) := Int.tdiv_eq_ediv_of_nonneg (by omega)
        have hr : 0 ≤ (k : Int) % (s : Int) ∧ (k : Int) % (s : Int) ≤ 16 := ⟨Int.emod_nonneg _ hs0, by have := Int.emod_lt_of_pos (k : Int) (show (0:Int) < s by omega); have := HT.out; omega⟩
        have hd : 0 ≤ (k : Int) / (s : Int) ∧ (k : Int) / (s : Int) ≤ 16 := ⟨Int.ediv_nonneg (by omega) (by omega), Int.le_trans (Int.ediv_le_self _ (by omega)) (by omega)⟩
        have qr : IntKind.i64.wrap ((k : Int) % (s : Int)) = (k : Int) % (s : Int) := IntWalk.i64_in _ (by omega)
        have qd : IntKind.i64.wrap ((k : Int) / (s : Int)) = (k : Int) / (s : Int) := IntWalk.i64_in _ (by omega)
        clear hq fa1 fa2 fa3 fb1 fb2 fb3 hr hd
        go_wp2_with fail
        refine (HPA.out _).mono ?_
        rintro e wn ⟨rfl, hbn⟩; obtain ⟨X, nX, rfl⟩ := Below.ext hbn; clear hbn
        go_wp2
        (first | refine region_q2 (by kernel_rfl) (by kernel_rfl) ?_ | refine region_q (by kernel_rfl) (by kernel_rfl) ?_)
        repeat (first | go_big_quiet_skip | (go_big_quiet_want; go_simp; go_big_quiet_on))
        (refine wpQuiet_step (fun K hK => ?_); go_simp; refine ⟨_, fun zt => ext_below (HIS.out _), hK _ ?_⟩; clear hK K)
        repeat (first | go_big_quiet_skip | (go_big_quiet_want; go_simp; go_big_quiet_on))
        (refine wpQuiet_nil ?_; intro X nX)
        go_wp2
        go_roundw
        case rel => exact ⟨k + 1, by omega, by go_num, HBEL.out.trans (Below.mono (show Below wr.heap.size wr _ from (by repeat (first | exact Below.refl _ _ | refine Below.drew ?_ | refine Below.alloc ?_ (by first | exact Nat.le_refl _ | (simp; done) | (simp; omega) | omega) _ | refine Below.more ?_ (by first | exact Nat.le_refl _ | (simp; done) | (simp; omega) | omega) _ _ | refine Below.setCell ?_ (by first | exact Nat.le_refl _ | (simp; done) | (simp; omega) | omega) _ | assumption))) HBEL.out.size)⟩
        case measure => simp [intOf]; omega
      · obtain rfl : k = m := by omega
        have hnl : ¬ (k : Int) < (k : Int) := by omega
        go_wp2
        go_ret
        exact ⟨rfl, B5.out.trans (HBEL.out.mono B5.out.size)⟩
  · have hb1 : (n : Int) > 1048576 := by omega
    go_enter Try.func3, Try.ntmps3
    go_wp2
    go_ret
    exact ⟨rfl, (by repeat (first | exact Below.refl _ _ | refine Below.drew ?_ | refine Below.alloc ?_ (by first | exact Nat.le_refl _ | (simp; done) | (simp; omega) | omega) _ | refine Below.more ?_ (by first | exact Nat.le_refl _ | (simp; done) | (simp; omega) | omega) _ _ | refine Below.setCell ?_ (by first | exact Nat.le_refl _ | (simp; done) | (simp; omega) | omega) _ | assumption))⟩
end Go.Proofs.Ytdkjiafdfenbkaa
