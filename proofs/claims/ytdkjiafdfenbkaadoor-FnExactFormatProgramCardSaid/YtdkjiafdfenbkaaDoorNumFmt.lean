/- Contracts of FormatNumber. -/
import Derived.Test.YtdkjiafdfenbkaaDoorFmt
import Derived.Test.YtdkjiafdfenbkaaDoorFmtInts
namespace Go.Proofs.YtdkjiafdfenbkaaDoor
open Go Go.RowKit
set_option linter.unusedVariables false
/-- The fraction's digits at k places; do they stand for the rest? -/
def fracN (r k : Nat) : Nat := (r * 10 ^ k + 255) / 256
def fracOk (r k : Nat) : Bool := decide (fracN r k < 10 ^ k) && decide (fracN r k * 256 / 10 ^ k = r)
/-- How many places the rest takes. -/
def placesN (r : Nat) : Nat := if fracOk r 1 then 1 else if fracOk r 2 then 2 else if fracOk r 3 then 3 else 4
theorem places_ok : ∀ r, r < 256 → fracOk r (placesN r) = true := by decide +kernel
theorem places_bd (r : Nat) : 1 ≤ placesN r ∧ placesN r ≤ 4 := by
  unfold placesN
  split
  · omega
  · split
    · omega
    · split <;> omega
theorem places_no {r k : Nat} (h1 : 1 ≤ k) (h : k < placesN r) : fracOk r k = false := by
  unfold placesN at h
  split at h
  · omega
  · next h1' =>
    split at h
    · obtain rfl : k = 1 := by omega
      simpa using h1'
    · next h2' =>
      split at h
      · have hk : k = 1 ∨ k = 2 := by omega
        rcases hk with rfl | rfl
        · simpa using h1'
        · simpa using h2'
      · next h3' =>
        have hk : k = 1 ∨ k = 2 ∨ k = 3 := by omega
        rcases hk with rfl | rfl | rfl
        · simpa using h1'
        · simpa using h2'
        · simpa using h3'
/-- A number's digits with noughts ahead of them. -/
def padB (f k : Nat) : ByteArray := ⟨(List.replicate (k - (fmtB (f : Int)).size) 48).toArray⟩ ++ fmtB (f : Int)
def numOk (n : Int) : Bool := decide (0 ≤ n ∧ n ≤ 2559999)
def numB (n : Int) : ByteArray :=
  if numOk n then (if n % 256 = 0 then fmtB (n / 256) else (fmtB (n / 256) ++ ⟨#[46]⟩) ++ padB (fracN (n % 256).toNat (placesN (n % 256).toNat)) (placesN (n % 256).toNat)) else ⟨#[]⟩
structure NumF (n : Int) (h r K f : Nat) : Prop where
  lo : 0 ≤ n
  hi : n ≤ 2559999
  q : n / 256 = (h : Int)
  m : n % 256 = (r : Int)
  rb : r < 256
  hb : h ≤ 9999
  K1 : 1 ≤ K
  K4 : K ≤ 4
  no : ∀ k, 1 ≤ k → k < K → fracOk r k = false
  ok : fracOk r K = true
  fe : f = fracN r K
  z : r = 0 → numB n = fmtB (h : Int)
  b : r ≠ 0 → numB n = (fmtB (h : Int) ++ ⟨#[46]⟩) ++ padB f K
theorem numF {n : Int} (hn : numOk n = true) : NumF n (n / 256).toNat (n % 256).toNat (placesN (n % 256).toNat) (fracN (n % 256).toNat (placesN (n % 256).toNat)) := by
  have hb : 0 ≤ n ∧ n ≤ 2559999 := by simpa [numOk] using hn
  have h1 : n / 256 = ((n / 256).toNat : Int) := by omega
  have h2 : n % 256 = ((n % 256).toNat : Int) := by omega
  refine ⟨hb.1, hb.2, h1, h2, by omega, by omega, (places_bd _).1, (places_bd _).2, fun k a b => places_no a b, places_ok _ (by omega), rfl, fun h => ?_, fun h => ?_⟩
  · unfold numB
    rw [hn, if_pos rfl, if_pos (by omega), ← h1]
  · unfold numB
    rw [hn, if_pos rfl, if_neg (by omega), ← h1]
theorem num_no {n : Int} (hn : numOk n = false) : numB n = ⟨#[]⟩ := by unfold numB; rw [hn]; rfl
/-- The arithmetic of a round at k places. -/
structure FracF (r k P F : Nat) : Prop where
  P1 : 1 ≤ P
  P4 : P ≤ 10000
  a : IntKind.i64.wrap ((r : Int) * (P : Int)) = (r : Int) * (P : Int)
  b : IntKind.i64.wrap ((r : Int) * (P : Int) + 255) = (r : Int) * (P : Int) + 255
  c : ((r : Int) * (P : Int) + 255).tdiv 256 = (F : Int)
  c' : ((r : Int) * (P : Int) + 255) / 256 = (F : Int)
  d : F ≤ 10000
  e : IntKind.i64.wrap ((F : Int) * 256) = (F : Int) * 256
  g : ((F : Int) * 256).tdiv (P : Int) = ((F * 256 / P : Nat) : Int)
  g' : ((F : Int) * 256) / (P : Int) = ((F * 256 / P : Nat) : Int)
  i : F * 256 / P ≤ 2560000
theorem fracF {r k P : Nat} (hr : r < 256) (hk : k ≤ 4) (hP : P = 10 ^ k) : FracF r k P (fracN r k) := by
  have hP1 : 1 ≤ P := by rw [hP]; exact Nat.one_le_pow _ _ (by decide)
  have hP4 : P ≤ 10000 := by
    have hk' : k = 0 ∨ k = 1 ∨ k = 2 ∨ k = 3 ∨ k = 4 := by omega
    rcases hk' with rfl | rfl | rfl | rfl | rfl <;> rw [hP] <;> decide
  have hm : r * P ≤ 255 * P := Nat.mul_le_mul_right P (by omega)
  have hF : fracN r k ≤ 10000 := by
    unfold fracN
    rw [← hP]
    omega
  have hG : fracN r k * 256 / P ≤ 2560000 := Nat.le_trans (Nat.div_le_self _ _) (by omega)
  have hc : (((r * P + 255) / 256 : Nat) : Int) = ((r : Int) * (P : Int) + 255) / 256 := by simp
  have hFe : (fracN r k : Int) = ((r : Int) * (P : Int) + 255) / 256 := by rw [← hc, hP]; rfl
  have hnn : (0 : Int) ≤ (r : Int) * (P : Int) := Int.mul_nonneg (by omega) (by omega)
  have hmm : (r : Int) * (P : Int) ≤ 2550000 := by
    have : ((r * P : Nat) : Int) ≤ 2550000 := by omega
    simpa using this
  refine ⟨hP1, hP4, IntWalk.i64_in _ (by omega), IntWalk.i64_in _ (by omega), ?_, hFe.symm, hF, IntWalk.i64_in _ (by omega), ?_, by simp, hG⟩
  · rw [Int.tdiv_eq_ediv_of_nonneg (by omega)]; exact hFe.symm
  · rw [Int.tdiv_eq_ediv_of_nonneg (by omega)]; simp
theorem fracOk_iff {r k P : Nat} (hP : P = 10 ^ k) : fracOk r k = (decide (fracN r k < P) && decide (fracN r k * 256 / P = r)) := by unfold fracOk; rw [← hP]
theorem frac_small {r k : Nat} (hk : 1 ≤ k) (hk4 : k ≤ 4) (h : fracOk r k = true) : (fmtB (fracN r k : Int)).size ≤ k := by
  simp only [fracOk, Bool.and_eq_true, decide_eq_true_eq] at h
  have hb : fracN r k < 10000 := by
    have hk' : k = 1 ∨ k = 2 ∨ k = 3 ∨ k = 4 := by omega
    rcases hk' with rfl | rfl | rfl | rfl <;> omega
  have e : fmtB (fracN r k : Int) = ⟨(Lib.decDigits (fracN r k)).toArray⟩ := by
    have ho : fmtOk (fracN r k : Int) = true := by rw [fmtOk_true]; omega
    unfold fmtB Lib.itoa
    rw [ho, if_pos rfl, if_neg (by omega)]; rfl
  rw [e]
  show (Lib.decDigits (fracN r k)).toArray.size ≤ k
  rw [List.size_toArray, decDigits_len]
  exact nDigits_bd k _ hk h.1
theorem padB_len (f k : Nat) : (padB f k).size ≤ k + 11 := by
  unfold padB
  rw [ByteArray.size_append]
  have h1 : (⟨(List.replicate (k - (fmtB (f : Int)).size) 48).toArray⟩ : ByteArray).size = k - (fmtB (f : Int)).size := by
    show (List.replicate (k - (fmtB (f : Int)).size) (48 : UInt8)).toArray.size = _
    simp
  have h2 := fmtB_len (f : Int)
  rw [h1]
  omega
set_option maxRecDepth 100000 in
theorem power_c (k : Nat) (h1 : 1 ≤ k) (h4 : k ≤ 4) (w : World) : Calls Tryd.prog 56 #[.int .i64 (k : Int)] w fun e w' => e = .returned (.int .i64 ((10 ^ k : Nat) : Int)) ∧ w = w' := by
  have hk : k = 1 ∨ k = 2 ∨ k = 3 ∨ k = 4 := by omega
  rcases hk with rfl | rfl | rfl | rfl
  all_goals
    go_enter Tryd.func56, Tryd.ntmps56
    go_wp2
    go_rounds 6
    go_ret
    exact ⟨rfl, rfl⟩
theorem padB_at (f k : Nat) : padB f k = ⟨(List.replicate (k - (fmtB (f : Int)).size) 48).toArray⟩ ++ fmtB (f : Int) := rfl
set_option maxRecDepth 100000 in
theorem l12Pad_c (f k : Nat) (hf : f ≤ 10000) (hk : k ≤ 4) (w : World) : Calls Tryd.prog 54 #[.int .i64 (f : Int), .int .i64 (k : Int)] w fun e w' => e = .returned (.string (padB f k)) ∧ Below w.heap.size w w' := by
  have HF := Lib.hid (fun w => spec_FormatInt_c (f : Int) w (by omega))
  have HP := Lib.hid (padB_at f k)
  have HZ := Lib.hid (fmtB_len (f : Int))
  generalize padB f k = PB at *
  generalize fmtB (f : Int) = t0 at *
  go_enter Tryd.func54, Tryd.ntmps54
  go_wp2_with (go_at_call 53; refine (HF.out _).mono ?_; rintro e wn ⟨rfl, hbn⟩; obtain ⟨X, nX, rfl⟩ := Below.ext hbn; clear hbn)
  go_loopw [5] (fun s wr => ∃ (t : ByteArray) (j : Nat), s = .string t ∧ Hid (t.data.toList = List.replicate j 48 ++ t0.data.toList) ∧ t.size = j + t0.size ∧ (j = 0 ∨ t.size ≤ k) ∧ Below w.heap.size w wr) (fun s _ => k - (match s with | .string t => t.size | _ => 0))
  case atStart => exact ⟨t0, 0, rfl, Lib.hid rfl, by omega, .inl rfl, (by repeat (first | exact Below.refl _ _ | refine Below.drew ?_ | refine Below.alloc ?_ (by first | exact Nat.le_refl _ | (simp; done) | (simp; omega) | omega) _ | refine Below.more ?_ (by first | exact Nat.le_refl _ | (simp; done) | (simp; omega) | omega) _ _ | refine Below.setCell ?_ (by first | exact Nat.le_refl _ | (simp; done) | (simp; omega) | omega) _ | assumption))⟩
  case round =>
    obtain ⟨t, j, rfl, HT, hsz, hj, hbel⟩ := hrel
    have HBEL := Lib.hid hbel
    have HSZ := Lib.hid hsz
    have hz0 := HZ.out
    by_cases hlt : t.size < k
    · have hlt1 : (t.size : Int) < (k : Int) := by omega
      have hlt2 : ¬ (k : Int) ≤ (t.size : Int) := by omega
      have HS := Lib.hid (show (⟨#[48]⟩ ++ t : ByteArray).data.toList = List.replicate (j + 1) 48 ++ t0.data.toList by
        rw [ByteArray.data_append, Array.toList_append, HT.out, List.replicate_succ]; rfl)
      have hz : (⟨#[48]⟩ ++ t : ByteArray).size = 1 + t.size := by rw [ByteArray.size_append]; rfl
      have HZ2 := Lib.hid hz
      clear hsz hz hbel
      go_wp2
      go_roundw
      case rel => exact ⟨_, j + 1, rfl, HS.out, by rw [HZ2.out, HSZ.out]; omega, .inr (by rw [HZ2.out]; omega), HBEL.out⟩
      case measure => have := HZ2.out; simp only [] at *; omega
    · have hlt1 : ¬ (t.size : Int) < (k : Int) := by omega
      have HE := Lib.hid (show t = PB by
        rw [HP.out]
        have hjk : j = k - t0.size := by omega
        rw [ba_eq HT.out, hjk]
        refine (ba_eq ?_).symm
        rw [ByteArray.data_append, Array.toList_append])
      clear hsz hbel
      go_wp2
      go_ret
      exact ⟨by rw [← HE.out]; rfl, HBEL.out⟩
set_option maxRecDepth 100000 in
set_option maxHeartbeats 1000000 in
theorem spec_FormatNumber_c (n : Int) (w : World) : Calls Tryd.prog 23 #[.int .i64 n] w fun e w' => e = .returned (.string (numB n)) ∧ Below w.heap.size w w' := by
  cases hok : numOk n
  · have hin : inB n 0 2559999 = false := by rw [inB_false]; simpa [numOk] using hok
    have HE := Lib.hid (num_no hok)
    go_enter Tryd.func23, Tryd.ntmps23
    go_wp2_with (go_at_call 52; refine (l01In_c _ _ _ _).mono ?_; rw [hin]; rintro e w' ⟨rfl, rfl⟩)
    go_ret
    exact ⟨by rw [HE.out]; rfl, (by repeat (first | exact Below.refl _ _ | refine Below.drew ?_ | refine Below.alloc ?_ (by first | exact Nat.le_refl _ | (simp; done) | (simp; omega) | omega) _ | refine Below.more ?_ (by first | exact Nat.le_refl _ | (simp; done) | (simp; omega) | omega) _ _ | refine Below.setCell ?_ (by first | exact Nat.le_refl _ | (simp; done) | (simp; omega) | omega) _ | assumption))⟩
  · have hN := numF hok
    generalize (n / 256).toNat = h at *
    generalize (n % 256).toNat = r at *
    generalize placesN r = K at *
    generalize fracN r K = f at *
    obtain ⟨hlo, hhi, hq, hm, hr, hh, hK1, hK4, hno, hyes, hfe, hz, hb⟩ := hN
    have hin : inB n 0 2559999 = true := by rw [inB_true]; exact ⟨hlo, hhi⟩
    have q1 : n.tdiv 256 = (h : Int) := by rw [Int.tdiv_eq_ediv_of_nonneg hlo]; exact hq
    have q2 : n.tmod 256 = (r : Int) := by rw [Int.tmod_eq_emod_of_nonneg hlo]; exact hm
    have q3 : IntKind.i64.wrap (h : Int) = (h : Int) := IntWalk.i64_in _ (by omega)
    have HW := Lib.hid (fun w => spec_FormatInt_c (h : Int) w (by omega))
    have HZ := Lib.hid hz
    have HB := Lib.hid hb
    have HNO := Lib.hid hno
    have HYES := Lib.hid hyes
    have HFE := Lib.hid hfe
    have HL := Lib.hid (fmtB_len (h : Int))
    clear hno hyes hfe hz hb hok
    generalize numB n = NB at *
    generalize fmtB (h : Int) = wh at *
    by_cases hr0 : r = 0
    · subst hr0
      have HE := Lib.hid (HZ.out rfl)
      go_enter Tryd.func23, Tryd.ntmps23
      go_wp2_with (first | (go_at_call 52; refine (l01In_c _ _ _ _).mono ?_; rw [hin]; rintro e w' ⟨rfl, rfl⟩) | (go_at_call 53; refine (HW.out _).mono ?_; rintro e wn ⟨rfl, hbn⟩; obtain ⟨X, nX, rfl⟩ := Below.ext hbn; clear hbn))
      go_ret
      exact ⟨by rw [HE.out]; rfl, (by repeat (first | exact Below.refl _ _ | refine Below.drew ?_ | refine Below.alloc ?_ (by first | exact Nat.le_refl _ | (simp; done) | (simp; omega) | omega) _ | refine Below.more ?_ (by first | exact Nat.le_refl _ | (simp; done) | (simp; omega) | omega) _ _ | refine Below.setCell ?_ (by first | exact Nat.le_refl _ | (simp; done) | (simp; omega) | omega) _ | assumption))⟩
    · have HE := Lib.hid (HB.out hr0)
      have hr1 : ¬ (r : Int) = 0 := by omega
      have hr2 : ((r : Int) == 0) = false := by simp; omega
      go_enter Tryd.func23, Tryd.ntmps23
      go_wp2_with (first | (go_at_call 52; refine (l01In_c _ _ _ _).mono ?_; rw [hin]; rintro e w' ⟨rfl, rfl⟩) | (go_at_call 53; refine (HW.out _).mono ?_; rintro e wn ⟨rfl, hbn⟩; obtain ⟨X, nX, rfl⟩ := Below.ext hbn; clear hbn))
      go_loopw [5, 6] (fun u kv wr => ∃ (k P' : Nat), 1 ≤ k ∧ k ≤ K ∧ kv = .int .i64 k ∧ u = .int .i64 (P' : Int) ∧ Hid (P' = 10 ^ (k - 1)) ∧ Below w.heap.size w wr) (fun _ kv _ => 5 - (intOf kv).toNat)
      case atStart => exact ⟨1, 1, by omega, hK1, rfl, rfl, Lib.hid rfl, (by repeat (first | exact Below.refl _ _ | refine Below.drew ?_ | refine Below.alloc ?_ (by first | exact Nat.le_refl _ | (simp; done) | (simp; omega) | omega) _ | refine Below.more ?_ (by first | exact Nat.le_refl _ | (simp; done) | (simp; omega) | omega) _ _ | refine Below.setCell ?_ (by first | exact Nat.le_refl _ | (simp; done) | (simp; omega) | omega) _ | assumption))⟩
      case round =>
        obtain ⟨k, P', hk1, hkK, rfl, rfl, HP', hbel⟩ := hrel
        have HBEL := Lib.hid hbel
        have hk4 : k ≤ 4 := by omega
        have hk4i : (k : Int) ≤ 4 := by omega
        obtain ⟨P, hP⟩ : ∃ P, P = 10 ^ k := ⟨_, rfl⟩
        obtain ⟨hP1, hP4, qa, qb, qcc, qc', hd, qe, qg, qg', hG⟩ := fracF (r := r) hr hk4 hP
        have HPP := Lib.hid (show P' * 10 = P by rw [HP'.out, hP, ← Nat.pow_succ]; congr 1; omega)
        have qU : IntKind.i64.wrap ((P' : Int) * 10) = (P : Int) := by
          have := HPP.out
          rw [show (P' : Int) * 10 = (P : Int) by omega]
          exact IntWalk.i64_in _ (by omega)
        have HIF := Lib.hid (fracOk_iff (r := r) hP)
        have HSM := Lib.hid (fun h => frac_small (r := r) (k := k) hk1 hk4 h)
        have HFK := Lib.hid (show k = K → f = fracN r k from fun h => by rw [h]; exact HFE.out)
        have HPD := Lib.hid (fun w => l12Pad_c (fracN r k) k hd hk4 w)
        have HPL := Lib.hid (padB_len (fracN r k) k)
        have HPB := Lib.hid (show f = fracN r k → padB f k = padB (fracN r k) k from fun h => by rw [h])
        have HP2 := Lib.hid hP
        have hP0 : ¬ (P : Int) = 0 := by omega
        have hP0' : ¬ P = 0 := by omega
        have HNK := Lib.hid (fun h => HNO.out k hk1 h)
        have HOK := Lib.hid (show k = K → fracOk r k = true from fun h => by rw [h]; exact HYES.out)
        clear hbel hP
        generalize padB (fracN r k) k = PB at *
        generalize fracN r k = F at *
        generalize F * 256 / P = G at *
        have qF : IntKind.i64.wrap (F : Int) = (F : Int) := IntWalk.i64_in _ (by omega)
        have qG : IntKind.i64.wrap (G : Int) = (G : Int) := IntWalk.i64_in _ (by omega)
        cases hgd : fracOk r k
        · have hkn : k < K := by
            by_cases h : k = K
            · rw [HOK.out h] at hgd; cases hgd
            · omega
          have hfg := HIF.out
          rw [hgd] at hfg
          by_cases hFP : F < P
          · have hFPi : (F : Int) < (P : Int) := by omega
            have hGr : ¬ G = r := fun h => by simp [hFP, h] at hfg
            have hGri : ¬ (G : Int) = (r : Int) := by omega
            have hGrb : ((G : Int) == (r : Int)) = false := by simp; omega
            clear hfg
            go_wp2
            go_roundw
            case rel => exact ⟨k + 1, P, by omega, by omega, by go_num, rfl, Lib.hid (by rw [HP2.out]; rfl), HBEL.out⟩
            case measure => simp [intOf]; omega
          · have hFPi : ¬ (F : Int) < (P : Int) := by omega
            clear hfg
            go_wp2
            go_roundw
            case rel => exact ⟨k + 1, P, by omega, by omega, by go_num, rfl, Lib.hid (by rw [HP2.out]; rfl), HBEL.out⟩
            case measure => simp [intOf]; omega
        · have hkn : k = K := by
            by_cases h : k < K
            · rw [HNK.out h] at hgd; cases hgd
            · omega
          have hfg := HIF.out
          rw [hgd] at hfg
          simp only [Bool.true_eq, Bool.and_eq_true, decide_eq_true_eq] at hfg
          obtain ⟨hFP, hGr⟩ := hfg
          have hFPi : (F : Int) < (P : Int) := by omega
          have hGrb : ((G : Int) == (r : Int)) = true := by rw [hGr]; simp
          have HE2 := Lib.hid (show NB = (wh ++ ⟨#[46]⟩) ++ PB by rw [HE.out, ← hkn, HPB.out (HFK.out hkn)])
          clear HFK HOK HNK HPB
          subst hkn
          have hsz1 := HL.out
          have hsz2 := HPL.out
          have hsz3 : (wh ++ ⟨#[46]⟩ : ByteArray).size = wh.size + 1 := by rw [ByteArray.size_append]; rfl
          go_wp2_with (go_at_call 54; go_loud (refine (HPD.out _).mono ?_; rintro e wn ⟨rfl, hbn⟩; obtain ⟨X, nX, rfl⟩ := Below.ext hbn; clear hbn))
          go_wp2
          go_ret
          exact ⟨by rw [HE2.out]; rfl, HBEL.out.trans (Below.mono (show Below wr.heap.size wr _ from (by repeat (first | exact Below.refl _ _ | refine Below.drew ?_ | refine Below.alloc ?_ (by first | exact Nat.le_refl _ | (simp; done) | (simp; omega) | omega) _ | refine Below.more ?_ (by first | exact Nat.le_refl _ | (simp; done) | (simp; omega) | omega) _ _ | refine Below.setCell ?_ (by first | exact Nat.le_refl _ | (simp; done) | (simp; omega) | omega) _ | assumption))) HBEL.out.size)⟩
set_option maxRecDepth 100000 in
set_option maxHeartbeats 1000000 in
theorem impl_FormatNumber_c (n : Int) (w : World) (hT : Tab w) : Calls Tryd.prog 24 #[.int .i64 n] w fun e w' => e = .returned (.string (numB n)) ∧ Below w.heap.size w w' := by
  have HTB := Lib.hid hT
  clear hT
  cases hok : numOk n
  · have hin : inB n 0 2559999 = false := by rw [inB_false]; simpa [numOk] using hok
    have HE := Lib.hid (num_no hok)
    go_enter Tryd.func24, Tryd.ntmps24
    go_wp2_with (go_at_call 47; refine (within_c _ _ _ _).mono ?_; rw [hin]; rintro e w' ⟨rfl, rfl⟩)
    go_ret
    exact ⟨by rw [HE.out]; rfl, (by repeat (first | exact Below.refl _ _ | refine Below.drew ?_ | refine Below.alloc ?_ (by first | exact Nat.le_refl _ | (simp; done) | (simp; omega) | omega) _ | refine Below.more ?_ (by first | exact Nat.le_refl _ | (simp; done) | (simp; omega) | omega) _ _ | refine Below.setCell ?_ (by first | exact Nat.le_refl _ | (simp; done) | (simp; omega) | omega) _ | assumption))⟩
  · have hN := numF hok
    generalize (n / 256).toNat = h at *
    generalize (n % 256).toNat = r at *
    generalize placesN r = K at *
    generalize fracN r K = f at *
    obtain ⟨hlo, hhi, hq, hm, hr, hh, hK1, hK4, hno, hyes, hfe, hz, hb⟩ := hN
    have hin : inB n 0 2559999 = true := by rw [inB_true]; exact ⟨hlo, hhi⟩
    have q1 : n.tdiv 256 = (h : Int) := by rw [Int.tdiv_eq_ediv_of_nonneg hlo]; exact hq
    have q2 : n.tmod 256 = (r : Int) := by rw [Int.tmod_eq_emod_of_nonneg hlo]; exact hm
    have q3 : IntKind.i64.wrap (h : Int) = (h : Int) := IntWalk.i64_in _ (by omega)
    have HW := Lib.hid (fun W (hb : Below w.heap.size w W) => impl_FormatInt_c (h : Int) W (HTB.out.below hb))
    have HZ := Lib.hid hz
    have HB := Lib.hid hb
    have HNO := Lib.hid hno
    have HYES := Lib.hid hyes
    have HFE := Lib.hid hfe
    have HL := Lib.hid (fmtB_len (h : Int))
    clear hno hyes hfe hz hb hok
    generalize numB n = NB at *
    generalize fmtB (h : Int) = wh at *
    by_cases hr0 : r = 0
    · subst hr0
      have HE := Lib.hid (HZ.out rfl)
      go_enter Tryd.func24, Tryd.ntmps24
      go_wp2_with (first | (go_at_call 47; refine (within_c _ _ _ _).mono ?_; rw [hin]; rintro e w' ⟨rfl, rfl⟩) | (go_at_call 55; refine (HW.out _ (by repeat (first | exact Below.refl _ _ | refine Below.drew ?_ | refine Below.alloc ?_ (by first | exact Nat.le_refl _ | (simp; done) | (simp; omega) | omega) _ | refine Below.more ?_ (by first | exact Nat.le_refl _ | (simp; done) | (simp; omega) | omega) _ _ | refine Below.setCell ?_ (by first | exact Nat.le_refl _ | (simp; done) | (simp; omega) | omega) _ | assumption))).mono ?_; rintro e wn ⟨rfl, hbn⟩; obtain ⟨X, nX, rfl⟩ := Below.ext hbn; clear hbn))
      go_ret
      exact ⟨by rw [HE.out]; rfl, (by repeat (first | exact Below.refl _ _ | refine Below.drew ?_ | refine Below.alloc ?_ (by first | exact Nat.le_refl _ | (simp; done) | (simp; omega) | omega) _ | refine Below.more ?_ (by first | exact Nat.le_refl _ | (simp; done) | (simp; omega) | omega) _ _ | refine Below.setCell ?_ (by first | exact Nat.le_refl _ | (simp; done) | (simp; omega) | omega) _ | assumption))⟩
    · have HE := Lib.hid (HB.out hr0)
      have hr1 : ¬ (r : Int) = 0 := by omega
      have hr2 : ((r : Int) == 0) = false := by simp; omega
      go_enter Tryd.func24, Tryd.ntmps24
      go_wp2_with (first | (go_at_call 47; refine (within_c _ _ _ _).mono ?_; rw [hin]; rintro e w' ⟨rfl, rfl⟩) | (go_at_call 55; refine (HW.out _ (by repeat (first | exact Below.refl _ _ | refine Below.drew ?_ | refine Below.alloc ?_ (by first | exact Nat.le_refl _ | (simp; done) | (simp; omega) | omega) _ | refine Below.more ?_ (by first | exact Nat.le_refl _ | (simp; done) | (simp; omega) | omega) _ _ | refine Below.setCell ?_ (by first | exact Nat.le_refl _ | (simp; done) | (simp; omega) | omega) _ | assumption))).mono ?_; rintro e wn ⟨rfl, hbn⟩; obtain ⟨X, nX, rfl⟩ := Below.ext hbn; clear hbn))
      go_loopw [5] (fun kv wr => ∃ (k : Nat), 1 ≤ k ∧ k ≤ K ∧ kv = .int .i64 k ∧ Below w.heap.size w wr) (fun kv _ => 5 - (intOf kv).toNat)
      case atStart => exact ⟨1, by omega, hK1, rfl, (by repeat (first | exact Below.refl _ _ | refine Below.drew ?_ | refine Below.alloc ?_ (by first | exact Nat.le_refl _ | (simp; done) | (simp; omega) | omega) _ | refine Below.more ?_ (by first | exact Nat.le_refl _ | (simp; done) | (simp; omega) | omega) _ _ | refine Below.setCell ?_ (by first | exact Nat.le_refl _ | (simp; done) | (simp; omega) | omega) _ | assumption))⟩
      case round =>
        obtain ⟨k, hk1, hkK, rfl, hbel⟩ := hrel
        have HBEL := Lib.hid hbel
        have hk4 : k ≤ 4 := by omega
        have HPW := Lib.hid (fun w => power_c k hk1 hk4 w)
        obtain ⟨P, hP⟩ : ∃ P, P = 10 ^ k := ⟨_, rfl⟩
        rw [← hP] at HPW
        obtain ⟨hP1, hP4, qa, qb, qcc, qc', hd, qe, qg, qg', hG⟩ := fracF (r := r) hr hk4 hP
        have HIF := Lib.hid (fracOk_iff (r := r) hP)
        have HSM := Lib.hid (fun h => frac_small (r := r) (k := k) hk1 hk4 h)
        have HFK := Lib.hid (show k = K → f = fracN r k from fun h => by rw [h]; exact HFE.out)
        have HFI := Lib.hid (fun W (hb : Below w.heap.size w W) => impl_FormatInt_c (fracN r k : Int) W (HTB.out.below hb))
        have HPB := Lib.hid (show f = fracN r k → padB f k = ⟨(List.replicate (k - (fmtB (fracN r k : Int)).size) 48).toArray⟩ ++ fmtB (fracN r k : Int) from fun h => by rw [h, padB_at])
        have HT0 := Lib.hid (fmtB_len (fracN r k : Int))
        have hP0 : ¬ (P : Int) = 0 := by omega
        have hP0' : ¬ P = 0 := by omega
        have HNK := Lib.hid (fun h => HNO.out k hk1 h)
        have HOK := Lib.hid (show k = K → fracOk r k = true from fun h => by rw [h]; exact HYES.out)
        have hsr := hbel.size
        clear hbel hP
        generalize fmtB (fracN r k : Int) = t0 at *
        generalize fracN r k = F at *
        generalize F * 256 / P = G at *
        have qF : IntKind.i64.wrap (F : Int) = (F : Int) := IntWalk.i64_in _ (by omega)
        have qG : IntKind.i64.wrap (G : Int) = (G : Int) := IntWalk.i64_in _ (by omega)
        cases hgd : fracOk r k
        · have hkn : k < K := by
            by_cases h : k = K
            · rw [HOK.out h] at hgd; cases hgd
            · omega
          have hfg := HIF.out
          rw [hgd] at hfg
          by_cases hFP : F < P
          · have hFPi : (F : Int) < (P : Int) := by omega
            have hGr : ¬ G = r := fun h => by simp [hFP, h] at hfg
            have hGri : ¬ (G : Int) = (r : Int) := by omega
            have hGrb : ((G : Int) == (r : Int)) = false := by simp; omega
            clear hfg
            go_wp2_with (go_at_call 56; refine (HPW.out _).mono ?_; rintro e w' ⟨rfl, rfl⟩)
            go_roundw
            case rel => exact ⟨k + 1, by omega, by omega, by go_num, HBEL.out⟩
            case measure => simp [intOf]; omega
          · have hFPi : ¬ (F : Int) < (P : Int) := by omega
            clear hfg
            go_wp2_with (go_at_call 56; refine (HPW.out _).mono ?_; rintro e w' ⟨rfl, rfl⟩)
            go_roundw
            case rel => exact ⟨k + 1, by omega, by omega, by go_num, HBEL.out⟩
            case measure => simp [intOf]; omega
        · have hkn : k = K := by
            by_cases h : k < K
            · rw [HNK.out h] at hgd; cases hgd
            · omega
          have hfg := HIF.out
          rw [hgd] at hfg
          simp only [Bool.true_eq, Bool.and_eq_true, decide_eq_true_eq] at hfg
          obtain ⟨hFP, hGr⟩ := hfg
          have hFPi : (F : Int) < (P : Int) := by omega
          have hGrb : ((G : Int) == (r : Int)) = true := by rw [hGr]; simp
          have hts := HSM.out hgd
          obtain ⟨cz, hcz⟩ : ∃ cz, cz = k - t0.size := ⟨_, rfl⟩
          have qz : IntKind.i64.wrap ((k : Int) - (t0.size : Int)) = (cz : Int) := by rw [show (k : Int) - (t0.size : Int) = (cz : Int) by omega]; exact IntWalk.i64_in _ (by omega)
          have hRP := Tryd.strings_Repeat ⟨#[48]⟩ cz
          have hrl : Lib.repeatL (⟨#[48]⟩ : ByteArray).data.toList cz = List.replicate cz 48 := by
            have := Lib.repeatL_replicate 48 1 cz
            rw [Nat.mul_one] at this
            exact this
          rw [hrl] at hRP
          obtain ⟨rz, hrz⟩ : ∃ rz : ByteArray, rz = ⟨(List.replicate cz 48).toArray⟩ := ⟨_, rfl⟩
          rw [← hrz] at hRP
          have hrs : rz.size = cz := by rw [hrz]; show (List.replicate cz (48 : UInt8)).toArray.size = cz; simp
          have HRP := Lib.hid (fun w => hRP w (by omega) (by have : (⟨#[48]⟩ : ByteArray).size = 1 := rfl
                                                             rw [this]; omega))
          have HE2 := Lib.hid (show NB = ((wh ++ ⟨#[46]⟩) ++ rz) ++ t0 by rw [HE.out, ← hkn, HPB.out (HFK.out hkn), hrz, hcz]; simp only [ByteArray.append_assoc])
          have hsz1 := HL.out
          have hsz2 := HT0.out
          have hsz3 : (wh ++ ⟨#[46]⟩ : ByteArray).size = wh.size + 1 := by rw [ByteArray.size_append]; rfl
          have hsz4 : ((wh ++ ⟨#[46]⟩) ++ rz : ByteArray).size = wh.size + 1 + rz.size := by rw [ByteArray.size_append, hsz3]
          have hcz4 : cz ≤ 4 := by omega
          clear HFK HOK HNK HPB hRP hrl hrz hcz HSM HIF
          subst hkn
          go_wp2_with (first | (go_at_call 56; refine (HPW.out _).mono ?_; rintro e w' ⟨rfl, rfl⟩) | (go_at_call 55; refine (HFI.out _ (HBEL.out.trans (Below.mono (show Below wr.heap.size wr _ from (by repeat (first | exact Below.refl _ _ | refine Below.drew ?_ | refine Below.alloc ?_ (by first | exact Nat.le_refl _ | (simp; done) | (simp; omega) | omega) _ | refine Below.more ?_ (by first | exact Nat.le_refl _ | (simp; done) | (simp; omega) | omega) _ _ | refine Below.setCell ?_ (by first | exact Nat.le_refl _ | (simp; done) | (simp; omega) | omega) _ | assumption))) hsr))).mono ?_; rintro e wn ⟨rfl, hbn⟩; obtain ⟨X, nX, rfl⟩ := Below.ext hbn; clear hbn) | (go_at_call 57; refine (HRP.out _).mono ?_; rintro e wn ⟨rfl, hbn⟩; obtain ⟨X, nX, rfl⟩ := Below.ext hbn; clear hbn))
          go_ret
          exact ⟨by rw [HE2.out]; rfl, HBEL.out.trans (Below.mono (show Below wr.heap.size wr _ from (by repeat (first | exact Below.refl _ _ | refine Below.drew ?_ | refine Below.alloc ?_ (by first | exact Nat.le_refl _ | (simp; done) | (simp; omega) | omega) _ | refine Below.more ?_ (by first | exact Nat.le_refl _ | (simp; done) | (simp; omega) | omega) _ _ | refine Below.setCell ?_ (by first | exact Nat.le_refl _ | (simp; done) | (simp; omega) | omega) _ | assumption))) hsr)⟩
end Go.Proofs.YtdkjiafdfenbkaaDoor
