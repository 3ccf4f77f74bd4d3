/- Contracts of what says whether a face is valid. -/
import Derived.Test.YtbmhehjllchpoaaGreatEdges
namespace Go.Proofs.YtbmhehjllchpoaaGreat
open Go.RowKit
set_option maxRecDepth 100000 in
theorem index_c (a : Option Addr) (cap : Nat) (l : List Int) (n : Nat) (k : Nat) (hkn : k < n) (w : World) (hr : Sl w a 1 n (intAt l)) (hn : n ≤ 1048576) :
    Calls Tryz.prog 56 #[.slice a n cap, .int .i64 (l.getD k 0)] w fun e w' => ∃ r : Nat, e = .returned (.int .i64 r) ∧ w = w' ∧ r ≤ k ∧ l.getD r 0 = l.getD k 0 ∧ ∀ i, i < r → l.getD i 0 ≠ l.getD k 0 := by
  have HR := Lib.hid hr
  clear hr
  have HK := Lib.hid (fun j : Nat => show l.getD j 0 ≠ l.getD k 0 → j ≤ k → j < k from fun h1 h2 => by
    rcases Nat.lt_or_ge j k with h | h
    · exact h
    · obtain rfl : j = k := by omega
      exact absurd rfl h1)
  have HV := Lib.hid (show ∀ j : Nat, l.getD j 0 = l.getD j 0 from fun _ => rfl)
  generalize l.getD k 0 = v at *
  go_enter Tryz.func56, Tryz.ntmps56
  go_wp2
  go_loop [8] (fun i => ∃ (j : Nat), j ≤ k ∧ i = .int .i64 j ∧ Hid (∀ t, t < j → l.getD t 0 ≠ v)) (fun i => n - (intOf i).toNat)
  case atStart => exact ⟨0, by omega, rfl, Lib.hid fun j hj => by omega⟩
  case round =>
    obtain ⟨j, hj, rfl, HALL⟩ := hrel
    have hj1 : (j : Int) < (n : Int) := by omega
    have hj2 : (0 : Int) ≤ (j : Int) := by omega
    obtain ⟨b, o, rfl, hb, hc⟩ := HR.out (by omega)
    have c0 : w.cell? ⟨b, o + j, none⟩ = some (.int .i64 (l.getD j 0)) := by
      have := hc j (by omega) 0 (by omega)
      rw [Nat.mul_one, Nat.add_zero] at this
      rw [this]; simp [intAt]
    clear hc
    have HJ := Lib.hid (HK.out j)
    have HX := Lib.hid (HV.out j)
    generalize hx : l.getD j 0 = x at c0 HJ HX
    have HXX := Lib.hid hx
    clear hx
    by_cases hvx : v = x
    · subst hvx
      go_wp2
      go_ret
      exact ⟨j, rfl, rfl, hj, HXX.out, HALL.out⟩
    · have hb0 : (v == x) = false := by simpa using hvx
      have hjk := HJ.out (fun e => hvx e.symm) hj
      have HALL2 := Lib.hid (show ∀ t, t < j + 1 → l.getD t 0 ≠ v from fun t ht => by
        by_cases e : t = j
        · subst e; rw [HXX.out]; exact fun e => hvx e.symm
        · exact HALL.out t (by omega))
      go_wp2
      go_round
      case rel => exact ⟨j + 1, by omega, rfl, HALL2⟩
      case measure => simp only [intOf]; omega
/-- Where a number stands for the first time. -/
def fidx (l : List Int) (x : Int) : Nat := l.findIdx (· == x)
theorem index_k (a : Option Addr) (cap : Nat) (l : List Int) (n : Nat) (HN : Hid (l.length = n)) (k : Nat) (hkn : k < n) (w : World) (hr : Sl w a 1 n (intAt l)) (hn : n ≤ 1048576) :
    Calls Tryz.prog 56 #[.slice a n cap, .int .i64 (l.getD k 0)] w fun e w' => e = .returned (.int .i64 (fidx l (l.getD k 0) : Nat)) ∧ w = w' := by
  refine (index_c a cap l n k hkn w hr hn).mono ?_
  rintro e w' ⟨r, rfl, rfl, h1, h2, h3⟩
  have hl := HN.out
  have e : fidx l (l.getD k 0) = r := by
    unfold fidx
    rw [List.findIdx_eq (show r < l.length by omega)]
    have hg : ∀ i (h : i < l.length), l[i] = l.getD i 0 := fun i h => by rw [List.getD_eq_getElem?_getD, List.getElem?_eq_getElem h]; rfl
    refine ⟨by rw [hg]; simpa using h2, fun j hj => ?_⟩
    rw [hg j (by omega)]
    simpa using h3 j hj
  rw [e]
  exact ⟨rfl, rfl⟩
theorem fidx_ne {l : List Int} {k : Nat} (h : k < l.length) (hn : fidx l (l.getD k 0) ≠ k) : ∃ i, i < k ∧ l.getD i 0 = l.getD k 0 := by
  have hg : ∀ i (h : i < l.length), l[i] = l.getD i 0 := fun i h => by rw [List.getD_eq_getElem?_getD, List.getElem?_eq_getElem h]; rfl
  apply Classical.byContradiction
  intro hc
  apply hn
  unfold fidx
  rw [List.findIdx_eq h]
  refine ⟨by rw [hg]; simp, fun j hj => ?_⟩
  rw [hg j (by omega)]
  simpa using fun e => hc ⟨j, hj, e⟩
theorem fidx_eq {l : List Int} {k : Nat} (h : k < l.length) (hn : fidx l (l.getD k 0) = k) : ∀ i, i < k → l.getD i 0 ≠ l.getD k 0 := by
  have hg : ∀ i (h : i < l.length), l[i] = l.getD i 0 := fun i h => by rw [List.getD_eq_getElem?_getD, List.getElem?_eq_getElem h]; rfl
  unfold fidx at hn
  rw [List.findIdx_eq h] at hn
  intro i hi
  have := hn.2 i hi
  rw [hg i (by omega)] at this
  simpa using this
theorem faceOkB_len {nV : Nat} {f : List Int} (h : f.length ≠ 4) : faceOkB nV f = false := faceOkB_false.2 fun h' => h h'.1
theorem faceOkB_in {nV : Nat} {f : List Int} (h : argsInB f 0 ((nV : Int) - 1) = false) : faceOkB nV f = false := faceOkB_false.2 fun h' => by
  simp only [argsInB, decide_eq_false_iff_not] at h; exact h h'.2.1
theorem faceOkB_dup {nV : Nat} {f : List Int} {i j : Nat} (h : i < j) (hj : j < f.length) (e : f.getD i 0 = f.getD j 0) : faceOkB nV f = false := faceOkB_false.2 fun h' => h'.2.2 i j h hj e
theorem faceOkB_all {nV : Nat} {f : List Int} (h : f.length = 4) (h1 : argsInB f 0 ((nV : Int) - 1) = true) (h2 : ∀ j, j < f.length → ∀ i, i < j → f.getD i 0 ≠ f.getD j 0) : faceOkB nV f = true :=
  faceOkB_true.2 ⟨h, by simpa [argsInB] using h1, fun i j hij hj => h2 j hj i hij⟩
set_option maxRecDepth 100000 in
theorem validFace_c (va : Option Addr) (nV vc : Nat) (fa : Value) (a : Option Addr) (cap : Nat) (f : List Int) (n : Nat) (HN : Hid (f.length = n)) (w : World) (hr : Sl w a 1 n (intAt f)) (hn : n ≤ 1048576) (hv : nV ≤ 1048576) :
    Calls Tryz.prog 39 #[.agg #[.slice va nV vc, fa], .slice a n cap] w fun e w' => e = .returned (.bool (faceOkB nV f)) ∧ Below w.heap.size w w' := by
  have HR := Lib.hid hr
  clear hr
  have F1 := Lib.hid (fun h => faceOkB_len (nV := nV) (f := f) h)
  have F2 := Lib.hid (fun h => faceOkB_in (nV := nV) (f := f) h)
  have F3 := Lib.hid (fun i j h1 h2 h3 => faceOkB_dup (nV := nV) (f := f) (i := i) (j := j) h1 h2 h3)
  have F4 := Lib.hid (fun h1 h2 h3 => faceOkB_all (nV := nV) (f := f) h1 h2 h3)
  generalize hrr : faceOkB nV f = r at *
  clear hrr
  by_cases h4 : n = 4
  case neg =>
    have hb0 : ((n : Int) != 4) = true := by simp; omega
    have HF := Lib.hid (F1.out (by rw [HN.out]; exact h4))
    clear h4
    go_enter Tryz.func39, Tryz.ntmps39
    go_wp2
    go_ret
    exact ⟨ret_bool HF.out.symm, (by repeat (first | exact Below.refl _ _ | refine Below.drew ?_ | refine Below.alloc ?_ (by first | exact Nat.le_refl _ | (simp; done) | (simp; omega) | omega) _ | refine Below.more ?_ (by first | exact Nat.le_refl _ | (simp; done) | (simp; omega) | omega) _ _ | refine Below.setCell ?_ (by first | exact Nat.le_refl _ | (simp; done) | (simp; omega) | omega) _ | assumption))⟩
  have hwrap : IntKind.i64.wrap ((nV : Int) - 1) = (nV : Int) - 1 := IntWalk.i64_in _ (by omega)
  subst h4
  cases hin : argsInB f 0 ((nV : Int) - 1)
  · have HF := Lib.hid (F2.out hin)
    go_enter Tryz.func39, Tryz.ntmps39
    go_wp2_with (go_at_call 55; refine (allWithin_c _ _ f _ HN _ _ _ (HR.out.below (by repeat (first | exact Below.refl _ _ | refine Below.drew ?_ | refine Below.alloc ?_ (by first | exact Nat.le_refl _ | (simp; done) | (simp; omega) | omega) _ | refine Below.more ?_ (by first | exact Nat.le_refl _ | (simp; done) | (simp; omega) | omega) _ _ | refine Below.setCell ?_ (by first | exact Nat.le_refl _ | (simp; done) | (simp; omega) | omega) _ | assumption))) (by omega)).mono ?_; rw [hin]; rintro e w' ⟨rfl, rfl⟩)
    go_ret
    exact ⟨ret_bool HF.out.symm, (by repeat (first | exact Below.refl _ _ | refine Below.drew ?_ | refine Below.alloc ?_ (by first | exact Nat.le_refl _ | (simp; done) | (simp; omega) | omega) _ | refine Below.more ?_ (by first | exact Nat.le_refl _ | (simp; done) | (simp; omega) | omega) _ _ | refine Below.setCell ?_ (by first | exact Nat.le_refl _ | (simp; done) | (simp; omega) | omega) _ | assumption))⟩
  · have HIN := Lib.hid hin
    clear hin
    go_enter Tryz.func39, Tryz.ntmps39
    go_wp2_with (go_at_call 55; refine (allWithin_c _ _ f _ HN _ _ _ (HR.out.below (by repeat (first | exact Below.refl _ _ | refine Below.drew ?_ | refine Below.alloc ?_ (by first | exact Nat.le_refl _ | (simp; done) | (simp; omega) | omega) _ | refine Below.more ?_ (by first | exact Nat.le_refl _ | (simp; done) | (simp; omega) | omega) _ _ | refine Below.setCell ?_ (by first | exact Nat.le_refl _ | (simp; done) | (simp; omega) | omega) _ | assumption))) (by omega)).mono ?_; rw [HIN.out]; rintro e w' ⟨rfl, rfl⟩)
    go_loopw [21] (fun i wr => ∃ (k : Nat), k ≤ 4 ∧ i = .int .i64 k ∧ Hid (∀ j, j < k → ∀ i, i < j → f.getD i 0 ≠ f.getD j 0) ∧ Below w.heap.size w wr) (fun i _ => 4 - (intOf i).toNat)
    case atStart => exact ⟨0, by omega, rfl, Lib.hid (fun j hj => by omega), (by repeat (first | exact Below.refl _ _ | refine Below.drew ?_ | refine Below.alloc ?_ (by first | exact Nat.le_refl _ | (simp; done) | (simp; omega) | omega) _ | refine Below.more ?_ (by first | exact Nat.le_refl _ | (simp; done) | (simp; omega) | omega) _ _ | refine Below.setCell ?_ (by first | exact Nat.le_refl _ | (simp; done) | (simp; omega) | omega) _ | assumption))⟩
    case round =>
      obtain ⟨k, hk, rfl, HALL, hbel⟩ := hrel
      have HBEL := Lib.hid hbel
      clear hbel
      by_cases hlt : k < 4
      · have hk1 : (k : Int) < 4 := by omega
        obtain ⟨b, o, rfl, hb, hc⟩ := HR.out.below HBEL.out (by omega)
        have c0 : wr.cell? ⟨b, o + k, none⟩ = some (.int .i64 (f.getD k 0)) := by
          have := hc k hlt 0 (by omega)
          rw [Nat.mul_one, Nat.add_zero] at this
          rw [this]; simp [intAt]
        clear hc
        have HIX := Lib.hid (fun (w' : World) (hb : Below wr.heap.size wr w') => index_k _ cap f 4 HN k hlt w' ((HR.out.below HBEL.out).below hb) (by omega))
        have HD := Lib.hid (fun i h1 h3 => F3.out i k h1 (by rw [HN.out]; omega) h3)
        have HG := Lib.hid (show (∀ i, i < k → f.getD i 0 ≠ f.getD k 0) → ∀ j, j < k + 1 → ∀ i, i < j → f.getD i 0 ≠ f.getD j 0 from fun h j hj => by
          by_cases e : j = k
          · subst e; exact h
          · exact HALL.out j (by omega))
        have HE := Lib.hid (fun h => fidx_eq (l := f) (k := k) (by rw [HN.out]; exact hlt) h)
        have HNE := Lib.hid (fun h => fidx_ne (l := f) (k := k) (by rw [HN.out]; exact hlt) h)
        generalize f.getD k 0 = x at *
        generalize fidx f x = q at *
        by_cases hq : q = k
        · have hb1 : ((q : Int) != (k : Int)) = false := by simp; omega
          have HF := Lib.hid (HG.out (HE.out hq))
          clear hq
          go_wp2_with (go_at_call 56; refine (HIX.out _ (by repeat (first | exact Below.refl _ _ | refine Below.drew ?_ | refine Below.alloc ?_ (by first | exact Nat.le_refl _ | (simp; done) | (simp; omega) | omega) _ | refine Below.more ?_ (by first | exact Nat.le_refl _ | (simp; done) | (simp; omega) | omega) _ _ | refine Below.setCell ?_ (by first | exact Nat.le_refl _ | (simp; done) | (simp; omega) | omega) _ | assumption))).mono ?_; rintro e w' ⟨rfl, rfl⟩)
          refine ⟨⟨k + 1, by omega, rfl, HF, Below.trans HBEL.out (by repeat (first | exact Below.refl _ _ | refine Below.drew ?_ | refine Below.alloc ?_ (by first | exact Nat.le_refl _ | (simp; done) | (simp; omega) | omega) _ | refine Below.more ?_ (by first | exact Nat.le_refl _ | (simp; done) | (simp; omega) | omega) _ _ | refine Below.setCell ?_ (by first | exact Nat.le_refl _ | (simp; done) | (simp; omega) | omega) _ | assumption))⟩, by simp only [intOf]; omega⟩
        · have hb1 : ((q : Int) != (k : Int)) = true := by simp; omega
          have HF : Hid (r = false) := by obtain ⟨i, h1, h2⟩ := HNE.out hq; exact Lib.hid (HD.out i h1 h2)
          clear hq
          go_wp2_with (go_at_call 56; refine (HIX.out _ (by repeat (first | exact Below.refl _ _ | refine Below.drew ?_ | refine Below.alloc ?_ (by first | exact Nat.le_refl _ | (simp; done) | (simp; omega) | omega) _ | refine Below.more ?_ (by first | exact Nat.le_refl _ | (simp; done) | (simp; omega) | omega) _ _ | refine Below.setCell ?_ (by first | exact Nat.le_refl _ | (simp; done) | (simp; omega) | omega) _ | assumption))).mono ?_; rintro e w' ⟨rfl, rfl⟩)
          go_ret
          exact ⟨ret_bool HF.out.symm, Below.trans HBEL.out (by repeat (first | exact Below.refl _ _ | refine Below.drew ?_ | refine Below.alloc ?_ (by first | exact Nat.le_refl _ | (simp; done) | (simp; omega) | omega) _ | refine Below.more ?_ (by first | exact Nat.le_refl _ | (simp; done) | (simp; omega) | omega) _ _ | refine Below.setCell ?_ (by first | exact Nat.le_refl _ | (simp; done) | (simp; omega) | omega) _ | assumption))⟩
      · have hk1 : ¬ (k : Int) < 4 := by omega
        have HF := Lib.hid (F4.out HN.out HIN.out (fun j hj => HALL.out j (by rw [HN.out] at hj; omega)))
        go_wp2
        go_ret
        exact ⟨ret_bool HF.out.symm, HBEL.out⟩
set_option maxRecDepth 100000 in
set_option maxHeartbeats 1000000 in
theorem l06Face_c (va : Option Addr) (nV vc : Nat) (fa : Value) (a : Option Addr) (cap : Nat) (f : List Int) (n : Nat) (HN : Hid (f.length = n)) (hcap : n ≤ cap) (w : World) (hr : Sl w a 1 n (intAt f)) (hn : n ≤ 1048576) (hv : nV ≤ 1048576) :
    Calls Tryz.prog 30 #[.agg #[.slice va nV vc, fa], .slice a n cap] w fun e w' => e = .returned (.bool (faceOkB nV f)) ∧ Below w.heap.size w w' := by
  have HR := Lib.hid hr
  clear hr
  have F1 := Lib.hid (fun h => faceOkB_len (nV := nV) (f := f) h)
  have F2 := Lib.hid (fun h => faceOkB_in (nV := nV) (f := f) h)
  have F3 := Lib.hid (fun i j h1 h2 h3 => faceOkB_dup (nV := nV) (f := f) (i := i) (j := j) h1 h2 h3)
  have F4 := Lib.hid (fun h1 h2 h3 => faceOkB_all (nV := nV) (f := f) h1 h2 h3)
  generalize faceOkB nV f = r at *
  have hwrap : IntKind.i64.wrap ((nV : Int) - 1) = (nV : Int) - 1 := IntWalk.i64_in _ (by omega)
  go_enter Tryz.func30, Tryz.ntmps30
  go_wp2
  go_loopw [11] (fun i wr => ∃ (k : Nat), k ≤ n ∧ i = .int .i64 k ∧ Hid (∀ j, j < k → 0 ≤ f.getD j 0 ∧ f.getD j 0 ≤ (nV : Int) - 1) ∧ Hid (∀ j, j < k → ∀ i, i < j → f.getD i 0 ≠ f.getD j 0) ∧ Below w.heap.size w wr ∧ wr.cell? ⟨w.heap.size, 0, none⟩ = some (.slice va nV vc)) (fun i _ => n - (intOf i).toNat)
  case atStart => exact ⟨0, by omega, rfl, Lib.hid (fun j hj => by omega), Lib.hid (fun j hj => by omega), (by repeat (first | exact Below.refl _ _ | refine Below.drew ?_ | refine Below.alloc ?_ (by first | exact Nat.le_refl _ | (simp; done) | (simp; omega) | omega) _ | refine Below.more ?_ (by first | exact Nat.le_refl _ | (simp; done) | (simp; omega) | omega) _ _ | refine Below.setCell ?_ (by first | exact Nat.le_refl _ | (simp; done) | (simp; omega) | omega) _ | assumption)), by simp [go_sem]⟩
  case round =>
    obtain ⟨k, hk, rfl, HALL, HDIS, hbel, q0⟩ := hrel
    have HBEL := Lib.hid hbel
    have y1 : w.heap.size < wr.heap.size := World.block_lt_of_cell? _ _ q0
    clear hbel
    by_cases hlt : k < n
    · have hk1 : (k : Int) < (n : Int) := by omega
      have hk2 : (k : Int) ≤ (cap : Int) := by omega
      obtain ⟨b, o, rfl, hb, hc⟩ := HR.out.below HBEL.out (by omega)
      have HC2 := Lib.hid (show ∀ j, j < n → wr.cell? ⟨b, o + j, none⟩ = some (.int .i64 (f.getD j 0)) from fun j hj => by
        have := hc j hj 0 (by omega)
        rw [Nat.mul_one, Nat.add_zero] at this
        rw [this]; simp [intAt])
      clear hc
      have c0 := HC2.out k hlt
      have HNO := Lib.hid (fun h => F2.out (argsInB_no (l := f) (lo := 0) (hi := (nV : Int) - 1) (k := k) (by rw [HN.out]; exact hlt) h))
      have HYES := Lib.hid (show inB (f.getD k 0) 0 ((nV : Int) - 1) = true → ∀ j, j < k + 1 → 0 ≤ f.getD j 0 ∧ f.getD j 0 ≤ (nV : Int) - 1 from fun h j hj => by
        by_cases hjk : j = k
        · subst hjk; exact inB_true.1 h
        · exact HALL.out j (by omega))
      have HG := Lib.hid (show (∀ i, i < k → f.getD i 0 ≠ f.getD k 0) → ∀ j, j < k + 1 → ∀ i, i < j → f.getD i 0 ≠ f.getD j 0 from fun h j hj => by
        by_cases e : j = k
        · subst e; exact h
        · exact HDIS.out j (by omega))
      have HD := Lib.hid (fun i h1 h3 => F3.out i k h1 (by rw [HN.out]; omega) h3)
      generalize hx : f.getD k 0 = x at *
      cases hin : inB x 0 ((nV : Int) - 1)
      · go_wp2_with (go_at_call 13; refine (l01In_c _ _ _ _).mono ?_; rw [hin]; rintro e w' ⟨rfl, rfl⟩)
        go_ret
        exact ⟨ret_bool (HNO.out hin).symm, Below.trans HBEL.out (by repeat (first | exact Below.refl _ _ | refine Below.drew ?_ | refine Below.alloc ?_ (by first | exact Nat.le_refl _ | (simp; done) | (simp; omega) | omega) _ | refine Below.more ?_ (by first | exact Nat.le_refl _ | (simp; done) | (simp; omega) | omega) _ _ | refine Below.setCell ?_ (by first | exact Nat.le_refl _ | (simp; done) | (simp; omega) | omega) _ | assumption))⟩
      · go_wp2_with (go_at_call 13; refine (l01In_c _ _ _ _).mono ?_; rw [hin]; rintro e w' ⟨rfl, rfl⟩)
        go_loopw [27] (fun i wq => ∃ (j : Nat), j ≤ k ∧ i = .int .i64 j ∧ Hid (∀ i, i < j → f.getD i 0 ≠ x) ∧ Below wr.heap.size wr wq) (fun i _ => k - (intOf i).toNat)
        case atStart => exact ⟨0, by omega, rfl, Lib.hid (fun j hj => by omega), (by repeat (first | exact Below.refl _ _ | refine Below.drew ?_ | refine Below.alloc ?_ (by first | exact Nat.le_refl _ | (simp; done) | (simp; omega) | omega) _ | refine Below.more ?_ (by first | exact Nat.le_refl _ | (simp; done) | (simp; omega) | omega) _ _ | refine Below.setCell ?_ (by first | exact Nat.le_refl _ | (simp; done) | (simp; omega) | omega) _ | assumption))⟩
        case round =>
          obtain ⟨j, hj, rfl, HNE, hbel2⟩ := hrel
          have HB2 := Lib.hid hbel2
          clear hbel2
          by_cases hjk : j < k
          · have hj1 : (j : Int) < (k : Int) := by omega
            have d0 := cell_below HB2.out (HC2.out j (by omega))
            have HXY := Lib.hid (HD.out j hjk)
            have HNN := Lib.hid (show f.getD j 0 ≠ x → ∀ i, i < j + 1 → f.getD i 0 ≠ x from fun h i hi => by
              by_cases e : i = j
              · subst e; exact h
              · exact HNE.out i (by omega))
            generalize f.getD j 0 = y at *
            by_cases hxy : x = y
            · have hb1 : (x == y) = true := by simpa using hxy
              have HF := Lib.hid (HXY.out hxy.symm)
              clear hxy
              go_wp2
              go_ret
              exact ⟨ret_bool HF.out.symm, Below.trans HBEL.out (Below.trans (HB2.out.mono (by omega)) (by repeat (first | exact Below.refl _ _ | refine Below.drew ?_ | refine Below.alloc ?_ (by first | exact Nat.le_refl _ | (simp; done) | (simp; omega) | omega) _ | refine Below.more ?_ (by first | exact Nat.le_refl _ | (simp; done) | (simp; omega) | omega) _ _ | refine Below.setCell ?_ (by first | exact Nat.le_refl _ | (simp; done) | (simp; omega) | omega) _ | assumption)))⟩
            · have hb1 : (x == y) = false := by simpa using hxy
              have HF := Lib.hid (HNN.out (fun e => hxy e.symm))
              clear hxy
              go_wp2
              refine ⟨⟨j + 1, by omega, rfl, HF, Below.trans HB2.out (by repeat (first | exact Below.refl _ _ | refine Below.drew ?_ | refine Below.alloc ?_ (by first | exact Nat.le_refl _ | (simp; done) | (simp; omega) | omega) _ | refine Below.more ?_ (by first | exact Nat.le_refl _ | (simp; done) | (simp; omega) | omega) _ _ | refine Below.setCell ?_ (by first | exact Nat.le_refl _ | (simp; done) | (simp; omega) | omega) _ | assumption))⟩, by simp only [intOf]; omega⟩
          · have hj1 : ¬ (j : Int) < (k : Int) := by omega
            have HF := Lib.hid (HG.out (fun i hi => HNE.out i (by omega)))
            go_wp2
            refine ⟨⟨k + 1, by omega, rfl, Lib.hid (HYES.out hin), HF, Below.trans HBEL.out (HB2.out.mono (by omega)), cell_below HB2.out q0⟩, by simp only [intOf]; omega⟩
    · have hk1 : ¬ (k : Int) < (n : Int) := by omega
      have hb0 : Hid (((n : Int) == 4) = r) := by
        by_cases e : n = 4
        · subst e
          exact Lib.hid (by rw [F4.out HN.out (argsInB_all fun j hj => HALL.out j (by rw [HN.out] at hj; omega)) (fun j hj => HDIS.out j (by rw [HN.out] at hj; omega))]; rfl)
        · exact Lib.hid (by rw [F1.out (by rw [HN.out]; exact e)]; simp; omega)
      go_wp2
      go_ret
      exact ⟨ret_bool hb0.out, HBEL.out⟩
end Go.Proofs.YtbmhehjllchpoaaGreat
