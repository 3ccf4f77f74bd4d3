/- ValidMesh, with FaceOk ahead of it. -/
import Derived.Test.YtpfmcobkfofbjaaEdges
import Derived.Test.YtpfmcobkfofbjaaFaceSteps
namespace Go.Proofs.Ytpfmcobkfofbjaa
open Go.RowKit
set_option maxRecDepth 100000 in
theorem index_c (a : Option Addr) (cap : Nat) (l : List Int) (n : Nat) (k : Nat) (hkn : k < n) (w : World) (hr : Sl w a 1 n (intAt l)) (hn : n ≤ 1048576) :
    Calls Try.prog 53 #[.slice a n cap, .int .i64 (l.getD k 0)] w fun e w' => ∃ r : Nat, e = .returned (.int .i64 r) ∧ w = w' ∧ r ≤ k ∧ l.getD r 0 = l.getD k 0 ∧ ∀ i, i < r → l.getD i 0 ≠ l.getD k 0 := by
  have HR := Lib.hid hr
  clear hr
  have HK := Lib.hid (fun j : Nat => show l.getD j 0 ≠ l.getD k 0 → j ≤ k → j < k from fun h1 h2 => by
    rcases Nat.lt_or_ge j k with h | h
    · exact h
    · obtain rfl : j = k := by omega
      exact absurd rfl h1)
  have HV := Lib.hid (show ∀ j : Nat, l.getD j 0 = l.getD j 0 from fun _ => rfl)
  generalize l.getD k 0 = v at *
  go_enter Try.func53, Try.ntmps53
  go_wp2
  go_loop [8] (fun i => ∃ (j : Nat), j ≤ k ∧ i = .int .i64 j ∧ Hid (∀ t, t < j → l.getD t 0 ≠ v)) (fun i => n - (intOf i).toNat)
  case atStart => exact ⟨0, by omega, rfl, Lib.hid fun j hj => by omega⟩
  case round =>
    obtain ⟨j, hj, rfl, HALL⟩ := hrel
    have hj1 : (j : Int) < (n : Int) := by omega
    have hj2 : (0 : Int) ≤ (j : Int) := by omega
    obtain ⟨b, o, rfl, hb, hc⟩ := HR.out (by omega)
    have c0 : w.cell? ⟨b, o + j, none⟩ = some (.int .i64 (l.getD j 0)) := by
      have := hc j (by omega) 0 (by omega)
      rw [Nat.mul_one, Nat.add_zero] at this
      rw [this]; simp [intAt]
    clear hc
    have HJ := Lib.hid (HK.out j)
    have HX := Lib.hid (HV.out j)
    generalize hx : l.getD j 0 = x at c0 HJ HX
    have HXX := Lib.hid hx
    clear hx
    by_cases hvx : v = x
    · subst hvx
      go_wp2
      go_ret
      exact ⟨j, rfl, rfl, hj, HXX.out, HALL.out⟩
    · have hb0 : (v == x) = false := by simpa using hvx
      have hjk := HJ.out (fun e => hvx e.symm) hj
      have HALL2 := Lib.hid (show ∀ t, t < j + 1 → l.getD t 0 ≠ v from fun t ht => by
        by_cases e : t = j
        · subst e; rw [HXX.out]; exact fun e => hvx e.symm
        · exact HALL.out t (by omega))
      go_wp2
      go_round
      case rel => exact ⟨j + 1, by omega, rfl, HALL2⟩
      case measure => simp only [intOf]; omega
/-- Where a number stands for the first time. -/
def fidx (l : List Int) (x : Int) : Nat := l.findIdx (· == x)
theorem index_k (a : Option Addr) (cap : Nat) (l : List Int) (n : Nat) (HN : Hid (l.length = n)) (k : Nat) (hkn : k < n) (w : World) (hr : Sl w a 1 n (intAt l)) (hn : n ≤ 1048576) :
    Calls Try.prog 53 #[.slice a n cap, .int .i64 (l.getD k 0)] w fun e w' => e = .returned (.int .i64 (fidx l (l.getD k 0) : Nat)) ∧ w = w' := by
  refine (index_c a cap l n k hkn w hr hn).mono ?_
  rintro e w' ⟨r, rfl, rfl, h1, h2, h3⟩
  have hl := HN.out
  have e : fidx l (l.getD k 0) = r := by
    unfold fidx
    rw [List.findIdx_eq (show r < l.length by omega)]
    have hg : ∀ i (h : i < l.length), l[i] = l.getD i 0 := fun i h => by rw [List.getD_eq_getElem?_getD, List.getElem?_eq_getElem h]; rfl
    refine ⟨by rw [hg]; simpa using h2, fun j hj => ?_⟩
    rw [hg j (by omega)]
    simpa using h3 j hj
  rw [e]
  exact ⟨rfl, rfl⟩
theorem fidx_ne {l : List Int} {k : Nat} (h : k < l.length) (hn : fidx l (l.getD k 0) ≠ k) : ∃ i, i < k ∧ l.getD i 0 = l.getD k 0 := by
  have hg : ∀ i (h : i < l.length), l[i] = l.getD i 0 := fun i h => by rw [List.getD_eq_getElem?_getD, List.getElem?_eq_getElem h]; rfl
  apply Classical.byContradiction
  intro hc
  apply hn
  unfold fidx
  rw [List.findIdx_eq h]
  refine ⟨by rw [hg]; simp, fun j hj => ?_⟩
  rw [hg j (by omega)]
  simpa using fun e => hc ⟨j, hj, e⟩
theorem fidx_eq {l : List Int} {k : Nat} (h : k < l.length) (hn : fidx l (l.getD k 0) = k) : ∀ i, i < k → l.getD i 0 ≠ l.getD k 0 := by
  have hg : ∀ i (h : i < l.length), l[i] = l.getD i 0 := fun i h => by rw [List.getD_eq_getElem?_getD, List.getElem?_eq_getElem h]; rfl
  unfold fidx at hn
  rw [List.findIdx_eq h] at hn
  intro i hi
  have := hn.2 i hi
  rw [hg i (by omega)] at this
  simpa using this
theorem faceOkB_len {nV : Nat} {f : List Int} (h : f.length ≠ 4) : faceOkB nV f = false := faceOkB_false.2 fun h' => h h'.1
theorem faceOkB_in {nV : Nat} {f : List Int} (h : argsInB f 0 ((nV : Int) - 1) = false) : faceOkB nV f = false := faceOkB_false.2 fun h' => by
  simp only [argsInB, decide_eq_false_iff_not] at h; exact h h'.2.1
theorem faceOkB_dup {nV : Nat} {f : List Int} {i j : Nat} (h : i < j) (hj : j < f.length) (e : f.getD i 0 = f.getD j 0) : faceOkB nV f = false := faceOkB_false.2 fun h' => h'.2.2 i j h hj e
theorem faceOkB_all {nV : Nat} {f : List Int} (h : f.length = 4) (h1 : argsInB f 0 ((nV : Int) - 1) = true) (h2 : ∀ j, j < f.length → ∀ i, i < j → f.getD i 0 ≠ f.getD j 0) : faceOkB nV f = true :=
  faceOkB_true.2 ⟨h, by simpa [argsInB] using h1, fun i j hij hj => h2 j hj i hij⟩
set_option maxRecDepth 100000 in
theorem validFace_c (va : Option Addr) (nV vc : Nat) (fa : Value) (a : Option Addr) (cap : Nat) (f : List Int) (n : Nat) (HN : Hid (f.length = n)) (w : World) (hr : Sl w a 1 n (intAt f)) (hn : n ≤ 1048576) (hv : nV ≤ 1048576) :
    Calls Try.prog 30 #[.agg #[.slice va nV vc, fa], .slice a n cap] w fun e w' => e = .returned (.bool (faceOkB nV f)) ∧ Below w.heap.size w w' := by
  have HR := Lib.hid hr
  clear hr
  have F1 := Lib.hid (fun h => faceOkB_len (nV := nV) (f := f) h)
  have F2 := Lib.hid (fun h => faceOkB_in (nV := nV) (f := f) h)
  have F3 := Lib.hid (fun i j h1 h2 h3 => faceOkB_dup (nV := nV) (f := f) (i := i) (j := j) h1 h2 h3)
  have F4 := Lib.hid (fun h1 h2 h3 => faceOkB_all (nV := nV) (f := f) h1 h2 h3)
  generalize hrr : faceOkB nV f = r at *
  clear hrr
  by_cases h4 : n = 4
  case neg =>
    have hb0 : ((n : Int) != 4) = true := by simp; omega
    have HF := Lib.hid (F1.out (by rw [HN.out]; exact h4))
    clear h4
    go_enter Try.func30, Try.ntmps30
    go_wp2
    go_ret
    exact ⟨ret_bool HF.out.symm, (by repeat (first | exact Below.refl _ _ | refine Below.drew ?_ | refine Below.alloc ?_ (by first | exact Nat.le_refl _ | (simp; done) | (simp; omega) | omega) _ | refine Below.more ?_ (by first | exact Nat.le_refl _ | (simp; done) | (simp; omega) | omega) _ _ | refine Below.setCell ?_ (by first | exact Nat.le_refl _ | (simp; done) | (simp; omega) | omega) _ | assumption))⟩
  have hwrap : IntKind.i64.wrap ((nV : Int) - 1) = (nV : Int) - 1 := IntWalk.i64_in _ (by omega)
  subst h4
  cases hin : argsInB f 0 ((nV : Int) - 1)
  · have HF := Lib.hid (F2.out hin)
    go_enter Try.func30, Try.ntmps30
    go_wp2_with (go_at_call 52; refine (allWithin_c _ _ f _ HN _ _ _ (HR.out.below (by repeat (first | exact Below.refl _ _ | refine Below.drew ?_ | refine Below.alloc ?_ (by first | exact Nat.le_refl _ | (simp; done) | (simp; omega) | omega) _ | refine Below.more ?_ (by first | exact Nat.le_refl _ | (simp; done) | (simp; omega) | omega) _ _ | refine Below.setCell ?_ (by first | exact Nat.le_refl _ | (simp; done) | (simp; omega) | omega) _ | assumption))) (by omega)).mono ?_; rw [hin]; rintro e w' ⟨rfl, rfl⟩)
    go_ret
    exact ⟨ret_bool HF.out.symm, (by repeat (first | exact Below.refl _ _ | refine Below.drew ?_ | refine Below.alloc ?_ (by first | exact Nat.le_refl _ | (simp; done) | (simp; omega) | omega) _ | refine Below.more ?_ (by first | exact Nat.le_refl _ | (simp; done) | (simp; omega) | omega) _ _ | refine Below.setCell ?_ (by first | exact Nat.le_refl _ | (simp; done) | (simp; omega) | omega) _ | assumption))⟩
  · have HIN := Lib.hid hin
    clear hin
    go_enter Try.func30, Try.ntmps30
    go_wp2_with (go_at_call 52; refine (allWithin_c _ _ f _ HN _ _ _ (HR.out.below (by repeat (first | exact Below.refl _ _ | refine Below.drew ?_ | refine Below.alloc ?_ (by first | exact Nat.le_refl _ | (simp; done) | (simp; omega) | omega) _ | refine Below.more ?_ (by first | exact Nat.le_refl _ | (simp; done) | (simp; omega) | omega) _ _ | refine Below.setCell ?_ (by first | exact Nat.le_refl _ | (simp; done) | (simp; omega) | omega) _ | assumption))) (by omega)).mono ?_; rw [HIN.out]; rintro e w' ⟨rfl, rfl⟩)
    go_loopw [21] (fun i wr => ∃ (k : Nat), k ≤ 4 ∧ i = .int .i64 k ∧ Hid (∀ j, j < k → ∀ i, i < j → f.getD i 0 ≠ f.getD j 0) ∧ Below w.heap.size w wr) (fun i _ => 4 - (intOf i).toNat)
    case atStart => exact ⟨0, by omega, rfl, Lib.hid (fun j hj => by omega), (by repeat (first | exact Below.refl _ _ | refine Below.drew ?_ | refine Below.alloc ?_ (by first | exact Nat.le_refl _ | (simp; done) | (simp; omega) | omega) _ | refine Below.more ?_ (by first | exact Nat.le_refl _ | (simp; done) | (simp; omega) | omega) _ _ | refine Below.setCell ?_ (by first | exact Nat.le_refl _ | (simp; done) | (simp; omega) | omega) _ | assumption))⟩
    case round =>
      obtain ⟨k, hk, rfl, HALL, hbel⟩ := hrel
      have HBEL := Lib.hid hbel
      clear hbel
      by_cases hlt : k < 4
      · have hk1 : (k : Int) < 4 := by omega
        obtain ⟨b, o, rfl, hb, hc⟩ := HR.out.below HBEL.out (by omega)
        have c0 : wr.cell? ⟨b, o + k, none⟩ = some (.int .i64 (f.getD k 0)) := by
          have := hc k hlt 0 (by omega)
          rw [Nat.mul_one, Nat.add_zero] at this
          rw [this]; simp [intAt]
        clear hc
        have HIX := Lib.hid (fun (w' : World) (hb : Below wr.heap.size wr w') => index_k _ cap f 4 HN k hlt w' ((HR.out.below HBEL.out).below hb) (by omega))
        have HD := Lib.hid (fun i h1 h3 => F3.out i k h1 (by rw [HN.out]; omega) h3)
        have HG := Lib.hid (show (∀ i, i < k → f.getD i 0 ≠ f.getD k 0) → ∀ j, j < k + 1 → ∀ i, i < j → f.getD i 0 ≠ f.getD j 0 from fun h j hj => by
          by_cases e : j = k
          · subst e; exact h
          · exact HALL.out j (by omega))
        have HE := Lib.hid (fun h => fidx_eq (l := f) (k := k) (by rw [HN.out]; exact hlt) h)
        have HNE := Lib.hid (fun h => fidx_ne (l := f) (k := k) (by rw [HN.out]; exact hlt) h)
        generalize f.getD k 0 = x at *
        generalize fidx f x = q at *
        by_cases hq : q = k
        · have hb1 : ((q : Int) != (k : Int)) = false := by simp; omega
          have HF := Lib.hid (HG.out (HE.out hq))
          clear hq
          go_wp2_with (go_at_call 53; refine (HIX.out _ (by repeat (first | exact Below.refl _ _ | refine Below.drew ?_ | refine Below.alloc ?_ (by first | exact Nat.le_refl _ | (simp; done) | (simp; omega) | omega) _ | refine Below.more ?_ (by first | exact Nat.le_refl _ | (simp; done) | (simp; omega) | omega) _ _ | refine Below.setCell ?_ (by first | exact Nat.le_refl _ | (simp; done) | (simp; omega) | omega) _ | assumption))).mono ?_; rintro e w' ⟨rfl, rfl⟩)
          refine ⟨⟨k + 1, by omega, rfl, HF, Below.trans HBEL.out (by repeat (first | exact Below.refl _ _ | refine Below.drew ?_ | refine Below.alloc ?_ (by first | exact Nat.le_refl _ | (simp; done) | (simp; omega) | omega) _ | refine Below.more ?_ (by first | exact Nat.le_refl _ | (simp; done) | (simp; omega) | omega) _ _ | refine Below.setCell ?_ (by first | exact Nat.le_refl _ | (simp; done) | (simp; omega) | omega) _ | assumption))⟩, by simp only [intOf]; omega⟩
        · have hb1 : ((q : Int) != (k : Int)) = true := by simp; omega
          have HF : Hid (r = false) := by obtain ⟨i, h1, h2⟩ := HNE.out hq; exact Lib.hid (HD.out i h1 h2)
          clear hq
          go_wp2_with (go_at_call 53; refine (HIX.out _ (by repeat (first | exact Below.refl _ _ | refine Below.drew ?_ | refine Below.alloc ?_ (by first | exact Nat.le_refl _ | (simp; done) | (simp; omega) | omega) _ | refine Below.more ?_ (by first | exact Nat.le_refl _ | (simp; done) | (simp; omega) | omega) _ _ | refine Below.setCell ?_ (by first | exact Nat.le_refl _ | (simp; done) | (simp; omega) | omega) _ | assumption))).mono ?_; rintro e w' ⟨rfl, rfl⟩)
          go_ret
          exact ⟨ret_bool HF.out.symm, Below.trans HBEL.out (by repeat (first | exact Below.refl _ _ | refine Below.drew ?_ | refine Below.alloc ?_ (by first | exact Nat.le_refl _ | (simp; done) | (simp; omega) | omega) _ | refine Below.more ?_ (by first | exact Nat.le_refl _ | (simp; done) | (simp; omega) | omega) _ _ | refine Below.setCell ?_ (by first | exact Nat.le_refl _ | (simp; done) | (simp; omega) | omega) _ | assumption))⟩
      · have hk1 : ¬ (k : Int) < 4 := by omega
        have HF := Lib.hid (F4.out HN.out HIN.out (fun j hj => HALL.out j (by rw [HN.out] at hj; omega)))
        go_wp2
        go_ret
        exact ⟨ret_bool HF.out.symm, HBEL.out⟩
end Go.Proofs.Ytpfmcobkfofbjaa
namespace Go.Proofs.Ytpfmcobkfofbjaa
open Go Go.RowKit
theorem wfE_step {nV : Nat} {f : List Int} (h : faceOk nV f) (hn : nV ≤ 1048576) {j : Nat} (hj : j < 4) : wfE (stepAt f j) := by
  obtain ⟨h4, hin, _⟩ := h
  have g : ∀ i, i < 4 → (Lit.int .i64 (f.getD i 0)).wf = true := fun i hi => by
    have := hin i (by omega)
    exact WalkArith.wf_i64 (by omega)
  refine ⟨g j hj, ?_⟩
  show (Lit.int .i64 (f.getD ((j + 1) % f.length) 0)).wf = true
  rw [h4]
  exact g _ (Nat.mod_lt _ (by omega))
set_option maxRecDepth 100000 in
set_option maxHeartbeats 4000000 in
theorem impl_IsValidMesh_c (v : Value) (p : MeshD) (w : World) (hr : MeshR w v p) (hs : MeshSz 1048576 p) :
    Calls Try.prog 10 #[v] w fun e w' => e = .returned (.bool (meshOkB p)) ∧ Below w.heap.size w w' := by
  obtain ⟨a, c, a', c', rfl, h1, ⟨A, K, h2, h3, h4⟩⟩ := hr
  obtain ⟨hs1, hs2, hs3⟩ := hs
  have VB := Lib.hid (fun h => mesh_bigV (p := p) h)
  have FB := Lib.hid (fun h => mesh_bigF (p := p) h)
  have VV := Lib.hid (fun i h hn => mesh_vert (p := p) (i := i) h hn)
  have FF := Lib.hid (fun i h hn => mesh_face (p := p) (i := i) h hn)
  have FD := Lib.hid (fun k j hk hj h => mesh_dup (p := p) (k := k) (j := j) hk hj h)
  have ALL := Lib.hid (fun g1 g2 g3 g4 g5 => mesh_all (p := p) g1 g2 g3 g4 g5)
  generalize meshOkB p = r at *
  generalize p.nV = n at *
  generalize p.nF = m at *
  generalize p.verts = l at *
  generalize p.faces = s at *
  have HV := Lib.hid h1
  have HF := Lib.hid h2
  have HQ := Lib.hid h3
  have HSZ := Lib.hid hs3
  clear h1 h2 h3 h4 hs3
  by_cases hb1 : (80 : Int) < (n : Int)
  · have HR := Lib.hid (VB.out (by omega))
    go_enter Try.func10, Try.ntmps10
    go_wp2
    go_ret
    exact ⟨ret_bool HR.out.symm, (by repeat (first | exact Below.refl _ _ | refine Below.drew ?_ | refine Below.alloc ?_ (by first | exact Nat.le_refl _ | (simp; done) | (simp; omega) | omega) _ | refine Below.more ?_ (by first | exact Nat.le_refl _ | (simp; done) | (simp; omega) | omega) _ _ | refine Below.setCell ?_ (by first | exact Nat.le_refl _ | (simp; done) | (simp; omega) | omega) _ | assumption))⟩
  by_cases hb2 : (64 : Int) < (m : Int)
  · have HR := Lib.hid (FB.out (by omega))
    go_enter Try.func10, Try.ntmps10
    go_wp2
    go_ret
    exact ⟨ret_bool HR.out.symm, (by repeat (first | exact Below.refl _ _ | refine Below.drew ?_ | refine Below.alloc ?_ (by first | exact Nat.le_refl _ | (simp; done) | (simp; omega) | omega) _ | refine Below.more ?_ (by first | exact Nat.le_refl _ | (simp; done) | (simp; omega) | omega) _ _ | refine Below.setCell ?_ (by first | exact Nat.le_refl _ | (simp; done) | (simp; omega) | omega) _ | assumption))⟩
  go_enter Try.func10, Try.ntmps10
  go_wp2
  go_loopw [23] (fun i wr => ∃ (k : Nat), k ≤ n ∧ i = .int .i64 k ∧ Hid (∀ j, j < k → vecOkD (l.getD j default) = true) ∧ Below w.heap.size w wr ∧ wr.cell? ⟨w.heap.size, 0, none⟩ = some (.slice a n c) ∧ wr.cell? ⟨w.heap.size, 1, none⟩ = some (.slice a' m c')) (fun i _ => n - (intOf i).toNat)
  case atStart => exact ⟨0, by omega, rfl, Lib.hid (fun j hj => by omega), (by repeat (first | exact Below.refl _ _ | refine Below.drew ?_ | refine Below.alloc ?_ (by first | exact Nat.le_refl _ | (simp; done) | (simp; omega) | omega) _ | refine Below.more ?_ (by first | exact Nat.le_refl _ | (simp; done) | (simp; omega) | omega) _ _ | refine Below.setCell ?_ (by first | exact Nat.le_refl _ | (simp; done) | (simp; omega) | omega) _ | assumption)), by simp [go_sem], by simp [go_sem]⟩
  case round =>
    obtain ⟨k, hk, rfl, HALL, hbel, q0, q1⟩ := hrel
    have HBEL := Lib.hid hbel
    have y1 : w.heap.size < wr.heap.size := World.block_lt_of_cell? _ _ q0
    clear hbel
    by_cases hlt : k < n
    · have hk1 : (k : Int) < (n : Int) := by omega
      obtain ⟨b, o, e, hb, hc⟩ := HV.out.below HBEL.out (by omega)
      subst e
      have c0 : wr.cell? ⟨b, o + k * 3, none⟩ = some (.int .i64 (l.getD k default).f0) := hc k hlt 0 (by omega)
      have c1 : wr.cell? ⟨b, o + k * 3 + 1, none⟩ = some (.int .i64 (l.getD k default).f1) := hc k hlt 1 (by omega)
      have c2 : wr.cell? ⟨b, o + k * 3 + 2, none⟩ = some (.int .i64 (l.getD k default).f2) := hc k hlt 2 (by omega)
      clear hc
      have HNO := Lib.hid (fun h => VV.out k hlt h)
      have HYES := Lib.hid (show vecOkD (l.getD k default) = true → ∀ j, j < k + 1 → vecOkD (l.getD j default) = true from fun h j hj => by
        by_cases hjk : j = k
        · subst hjk; exact h
        · exact HALL.out j (by omega))
      have HE := Lib.hid (show vecOkD (l.getD k default) = vecOk (l.getD k default).f0 (l.getD k default).f1 (l.getD k default).f2 from rfl)
      generalize vecOkD (l.getD k default) = ok at *
      generalize l.getD k default = x at *
      obtain ⟨x0, x1, x2⟩ := x
      dsimp only at c0 c1 c2 HE
      cases ok
      · go_wp2_with (go_at_call 29; refine (impl_IsValidVec x0 x1 x2 _).mono ?_; rw [← HE.out]; rintro e wn ⟨rfl, hbn⟩; obtain ⟨X, nX, rfl⟩ := Below.ext hbn; clear hbn)
        go_ret
        exact ⟨ret_bool (HNO.out (by first | rfl | trivial)).symm, Below.trans HBEL.out (by repeat (first | exact Below.refl _ _ | refine Below.drew ?_ | refine Below.alloc ?_ (by first | exact Nat.le_refl _ | (simp; done) | (simp; omega) | omega) _ | refine Below.more ?_ (by first | exact Nat.le_refl _ | (simp; done) | (simp; omega) | omega) _ _ | refine Below.setCell ?_ (by first | exact Nat.le_refl _ | (simp; done) | (simp; omega) | omega) _ | assumption))⟩
      · go_wp2_with (go_at_call 29; refine (impl_IsValidVec x0 x1 x2 _).mono ?_; rw [← HE.out]; rintro e wn ⟨rfl, hbn⟩; obtain ⟨X, nX, rfl⟩ := Below.ext hbn; clear hbn)
        refine ⟨⟨k + 1, by omega, rfl, Lib.hid (HYES.out (by first | rfl | trivial)), Below.trans HBEL.out (by repeat (first | exact Below.refl _ _ | refine Below.drew ?_ | refine Below.alloc ?_ (by first | exact Nat.le_refl _ | (simp; done) | (simp; omega) | omega) _ | refine Below.more ?_ (by first | exact Nat.le_refl _ | (simp; done) | (simp; omega) | omega) _ _ | refine Below.setCell ?_ (by first | exact Nat.le_refl _ | (simp; done) | (simp; omega) | omega) _ | assumption)), ?_, ?_⟩, by simp only [intOf]; omega⟩
        · first | exact q0 | (simp [go_sem, q0, y1]; done)
        · first | exact q1 | (simp [go_sem, q1, y1]; done)
    · have hk1 : ¬ (k : Int) < (n : Int) := by omega
      have HALLV := Lib.hid (fun i (hi : i < n) => HALL.out i (by omega))
      clear HALL
      have hmm := @run_makeMap Try.prog
      go_wp2
      have hB : w.heap.size < wr.heap.size := y1
      have HES0 := Lib.hid (EdgeSet.made wr)
      have HB0 := Lib.hid (Below.trans HBEL.out (show Below w.heap.size wr (wr.alloc (.map #[] 0)) from (by repeat (first | exact Below.refl _ _ | refine Below.drew ?_ | refine Below.alloc ?_ (by first | exact Nat.le_refl _ | (simp; done) | (simp; omega) | omega) _ | refine Below.more ?_ (by first | exact Nat.le_refl _ | (simp; done) | (simp; omega) | omega) _ _ | refine Below.setCell ?_ (by first | exact Nat.le_refl _ | (simp; done) | (simp; omega) | omega) _ | assumption))))
      have p0 := cell_below (show Below wr.heap.size wr (wr.alloc (.map #[] 0)) from (by repeat (first | exact Below.refl _ _ | refine Below.drew ?_ | refine Below.alloc ?_ (by first | exact Nat.le_refl _ | (simp; done) | (simp; omega) | omega) _ | refine Below.more ?_ (by first | exact Nat.le_refl _ | (simp; done) | (simp; omega) | omega) _ _ | refine Below.setCell ?_ (by first | exact Nat.le_refl _ | (simp; done) | (simp; omega) | omega) _ | assumption))) q0
      have p1 := cell_below (show Below wr.heap.size wr (wr.alloc (.map #[] 0)) from (by repeat (first | exact Below.refl _ _ | refine Below.drew ?_ | refine Below.alloc ?_ (by first | exact Nat.le_refl _ | (simp; done) | (simp; omega) | omega) _ | refine Below.more ?_ (by first | exact Nat.le_refl _ | (simp; done) | (simp; omega) | omega) _ _ | refine Below.setCell ?_ (by first | exact Nat.le_refl _ | (simp; done) | (simp; omega) | omega) _ | assumption))) q1
      clear q0 q1 HBEL y1
      generalize wr.heap.size = B at *
      go_loopw [35] (fun i wr => ∃ (k : Nat), k ≤ m ∧ i = .int .i64 k ∧ Hid (∀ j, j < k → faceOkB n (faceAt s j) = true) ∧ Hid (edgesTo s k).Nodup ∧ EdgeSet wr B (4 * k) (edgesTo s k) ∧ Below w.heap.size w wr ∧ wr.cell? ⟨w.heap.size, 0, none⟩ = some (.slice a n c) ∧ wr.cell? ⟨w.heap.size, 1, none⟩ = some (.slice a' m c')) (fun i _ => m - (intOf i).toNat)
      case atStart => exact ⟨0, by omega, rfl, Lib.hid (fun j hj => by omega), Lib.hid List.nodup_nil, HES0.out, HB0.out, p0, p1⟩
      case round =>
        clear HES0 HB0 p0 p1
        obtain ⟨k, hk, rfl, HALL, HND, hes, hbel, q0, q1⟩ := hrel
        have HBEL := Lib.hid hbel
        have HES := Lib.hid hes
        have y1 : w.heap.size < wr.heap.size := World.block_lt_of_cell? _ _ q0
        have y2 : B < wr.heap.size := hes.lt
        clear hbel hes
        by_cases hlt : k < m
        · have hk1 : (k : Int) < (m : Int) := by omega
          obtain ⟨b, o, e, hb, hc⟩ := HF.out.below HBEL.out (by omega)
          subst e
          have c0 : wr.cell? ⟨b, o + k, none⟩ = some (.slice (A k) (faceAt s k).length (K k)) := by have := hc k hlt 0 (by omega); rw [Nat.mul_one, Nat.add_zero] at this; exact this
          clear hc
          have hsl : Sl wr (A k) 1 (faceAt s k).length (intAt (faceAt s k)) := (HQ.out k hlt).below HBEL.out
          have hsn := HSZ.out k hlt
          have HNO := Lib.hid (fun h => FF.out k hlt h)
          have HDU := Lib.hid (fun j hj h => FD.out k j hlt hj h)
          have HYES := Lib.hid (show faceOkB n (faceAt s k) = true → ∀ j, j < k + 1 → faceOkB n (faceAt s j) = true from fun h j hj => by
            by_cases hjk : j = k
            · subst hjk; exact h
            · exact HALL.out j (by omega))
          have HSU := Lib.hid (edgesTo_succ s k)
          generalize A k = ak at *
          generalize K k = kk at *
          generalize faceAt s k = f at *
          generalize edgesTo s k = L0 at *
          have HSL := Lib.hid hsl
          clear hsl
          generalize hq : f.length = q at *
          have HQL := Lib.hid hq
          clear hq
          cases hok : faceOkB n f
          · have HR := Lib.hid (HNO.out hok)
            go_wp2_with (go_at_call 30; refine (validFace_c _ _ _ _ _ _ f q HQL _ (HSL.out.below (by repeat (first | exact Below.refl _ _ | refine Below.drew ?_ | refine Below.alloc ?_ (by first | exact Nat.le_refl _ | (simp; done) | (simp; omega) | omega) _ | refine Below.more ?_ (by first | exact Nat.le_refl _ | (simp; done) | (simp; omega) | omega) _ _ | refine Below.setCell ?_ (by first | exact Nat.le_refl _ | (simp; done) | (simp; omega) | omega) _ | assumption))) hsn (by omega)).mono ?_; rw [hok]; rintro e wn ⟨rfl, hbn⟩; obtain ⟨X, nX, rfl⟩ := Below.ext hbn; clear hbn)
            go_ret
            exact ⟨ret_bool HR.out.symm, Below.trans HBEL.out (by repeat (first | exact Below.refl _ _ | refine Below.drew ?_ | refine Below.alloc ?_ (by first | exact Nat.le_refl _ | (simp; done) | (simp; omega) | omega) _ | refine Below.more ?_ (by first | exact Nat.le_refl _ | (simp; done) | (simp; omega) | omega) _ _ | refine Below.setCell ?_ (by first | exact Nat.le_refl _ | (simp; done) | (simp; omega) | omega) _ | assumption))⟩
          · obtain rfl : q = 4 := by rw [← HQL.out]; exact mesh_len4 hok
            have HOKF := Lib.hid (faceOkB_true.1 hok)
            have HYE := Lib.hid (HYES.out hok)
            have HOK := Lib.hid hok
            clear hok
            go_wp2_with (first | (go_at_call 30; refine (validFace_c _ _ _ _ _ _ f 4 HQL _ (HSL.out.below (by repeat (first | exact Below.refl _ _ | refine Below.drew ?_ | refine Below.alloc ?_ (by first | exact Nat.le_refl _ | (simp; done) | (simp; omega) | omega) _ | refine Below.more ?_ (by first | exact Nat.le_refl _ | (simp; done) | (simp; omega) | omega) _ _ | refine Below.setCell ?_ (by first | exact Nat.le_refl _ | (simp; done) | (simp; omega) | omega) _ | assumption))) hsn (by omega)).mono ?_; rw [HOK.out]; rintro e wn ⟨rfl, hbn⟩; obtain ⟨X, nX, rfl⟩ := Below.ext hbn; clear hbn) | (go_at_call 31; refine (faceEdges_c _ _ f HQL _ (HSL.out.below (by repeat (first | exact Below.refl _ _ | refine Below.drew ?_ | refine Below.alloc ?_ (by first | exact Nat.le_refl _ | (simp; done) | (simp; omega) | omega) _ | refine Below.more ?_ (by first | exact Nat.le_refl _ | (simp; done) | (simp; omega) | omega) _ _ | refine Below.setCell ?_ (by first | exact Nat.le_refl _ | (simp; done) | (simp; omega) | omega) _ | assumption)))).mono ?_; rintro e wn ⟨ae, ce, rfl, ho, hbn⟩; have HO := Lib.hid ho; have HBN := Lib.hid hbn; clear ho hbn))
            have HES1 := Lib.hid ((HES.out.kept (by repeat (first | exact Below.refl _ _ | refine Below.drew ?_ | refine Below.alloc ?_ (by first | exact Nat.le_refl _ | (simp; done) | (simp; omega) | omega) _ | refine Below.more ?_ (by first | exact Nat.le_refl _ | (simp; done) | (simp; omega) | omega) _ _ | refine Below.setCell ?_ (by first | exact Nat.le_refl _ | (simp; done) | (simp; omega) | omega) _ | assumption))).kept HBN.out)
            have HB1 := Lib.hid ((Below.trans HBEL.out (by repeat (first | exact Below.refl _ _ | refine Below.drew ?_ | refine Below.alloc ?_ (by first | exact Nat.le_refl _ | (simp; done) | (simp; omega) | omega) _ | refine Below.more ?_ (by first | exact Nat.le_refl _ | (simp; done) | (simp; omega) | omega) _ _ | refine Below.setCell ?_ (by first | exact Nat.le_refl _ | (simp; done) | (simp; omega) | omega) _ | assumption))).trans (HBN.out.mono (show w.heap.size ≤ _ from by simp; omega)))
            have HLO : Hid (∃ lo hi, B + 1 ≤ lo ∧ Ow wn lo hi ae 2 4 (edgeAt (stepsOf f))) := Lib.hid ⟨_, _, by simp; omega, HO.out⟩
            have z0 := cell_below (show Below wr.heap.size wr wn from Below.trans (by repeat (first | exact Below.refl _ _ | refine Below.drew ?_ | refine Below.alloc ?_ (by first | exact Nat.le_refl _ | (simp; done) | (simp; omega) | omega) _ | refine Below.more ?_ (by first | exact Nat.le_refl _ | (simp; done) | (simp; omega) | omega) _ _ | refine Below.setCell ?_ (by first | exact Nat.le_refl _ | (simp; done) | (simp; omega) | omega) _ | assumption)) (HBN.out.mono (by simp))) q0
            have z1 := cell_below (show Below wr.heap.size wr wn from Below.trans (by repeat (first | exact Below.refl _ _ | refine Below.drew ?_ | refine Below.alloc ?_ (by first | exact Nat.le_refl _ | (simp; done) | (simp; omega) | omega) _ | refine Below.more ?_ (by first | exact Nat.le_refl _ | (simp; done) | (simp; omega) | omega) _ _ | refine Below.setCell ?_ (by first | exact Nat.le_refl _ | (simp; done) | (simp; omega) | omega) _ | assumption)) (HBN.out.mono (by simp))) q1
            clear HO HBN HES q0 q1 HBEL y1
            obtain ⟨lo, hi, hlo, ho⟩ := HLO.out
            have HO := Lib.hid ho
            clear ho HLO
            go_loopw [46] (fun i wr => ∃ (j : Nat), j ≤ 4 ∧ i = .int .i64 j ∧ Hid (L0 ++ stepsTo f j).Nodup ∧ EdgeSet wr B (4 * k + j) (L0 ++ stepsTo f j) ∧ Ow wr lo hi ae 2 4 (edgeAt (stepsOf f)) ∧ Below w.heap.size w wr ∧ wr.cell? ⟨w.heap.size, 0, none⟩ = some (.slice a n c) ∧ wr.cell? ⟨w.heap.size, 1, none⟩ = some (.slice (some ⟨b, o, none⟩) m c')) (fun i _ => 4 - (intOf i).toNat)
            case atStart => exact ⟨0, by omega, rfl, Lib.hid (by rw [show stepsTo f 0 = [] from rfl, List.append_nil]; exact HND.out), by rw [show stepsTo f 0 = [] from rfl, List.append_nil]; exact HES1.out, HO.out, HB1.out, z0, z1⟩
            case round =>
              clear HES1 HB1 z0 z1 HO
              obtain ⟨j, hj, rfl, HN2, hes, ho, hbel, q0, q1⟩ := hrel
              have HBEL := Lib.hid hbel
              have HES := Lib.hid hes
              have HO := Lib.hid ho
              have y1 : w.heap.size < wr.heap.size := World.block_lt_of_cell? _ _ q0
              have y3 : B < wr.heap.size := hes.lt
              have hbs := hbel.size
              clear hbel hes ho
              by_cases hjl : j < 4
              · have hj1 : (j : Int) < 4 := by omega
                obtain ⟨b2, o2, e2, hb2, hc2⟩ := HO.out.sl (by omega)
                subst e2
                have hgd : (stepsOf f).getD j (0, 0) = stepAt f j := by
                  rw [List.getD_eq_getElem?_getD, stepsOf, stepsTo, HQL.out, List.getElem?_map, List.getElem?_range hjl]; rfl
                have d0 : wr.cell? ⟨b2, o2 + j * 2, none⟩ = some (.int .i64 (stepAt f j).1) := by rw [← hgd]; exact hc2 j hjl 0 (by omega)
                have d1 : wr.cell? ⟨b2, o2 + j * 2 + 1, none⟩ = some (.int .i64 (stepAt f j).2) := by rw [← hgd]; exact hc2 j hjl 1 (by omega)
                clear hc2 hgd
                have HWF := Lib.hid (wfE_step HOKF.out (by omega) hjl)
                have HD := Lib.hid (fun h => HDU.out j (by omega) h)
                have HSS := Lib.hid (show L0 ++ stepsTo f (j + 1) = (L0 ++ stepsTo f j) ++ [stepAt f j] by rw [stepsTo_succ, List.append_assoc])
                generalize stepAt f j = pr at *
                obtain ⟨x, y⟩ := pr
                dsimp only at d0 d1
                generalize L0 ++ stepsTo f j = L at *
                by_cases hm : (x, y) ∈ L
                · have hdec := Lib.hid (decide_eq_true hm)
                  have HR := Lib.hid (HD.out hm)
                  clear hm
                  go_wp2_with (at_lookup; refine wpList_look_edge _ rfl _ _ rfl B _ L rfl (HES.out.kept (by repeat (first | exact Below.refl _ _ | refine Below.drew ?_ | refine Below.alloc ?_ (by first | exact Nat.le_refl _ | (simp; done) | (simp; omega) | omega) _ | refine Below.more ?_ (by first | exact Nat.le_refl _ | (simp; done) | (simp; omega) | omega) _ _ | refine Below.setCell ?_ (by first | exact Nat.le_refl _ | (simp; done) | (simp; omega) | omega) _ | assumption))) (x, y) HWF.out rfl ?_; rw [hdec.out])
                  go_ret
                  exact ⟨ret_bool HR.out.symm, Below.trans HBEL.out (by repeat (first | exact Below.refl _ _ | refine Below.drew ?_ | refine Below.alloc ?_ (by first | exact Nat.le_refl _ | (simp; done) | (simp; omega) | omega) _ | refine Below.more ?_ (by first | exact Nat.le_refl _ | (simp; done) | (simp; omega) | omega) _ _ | refine Below.setCell ?_ (by first | exact Nat.le_refl _ | (simp; done) | (simp; omega) | omega) _ | assumption))⟩
                · have hdec := Lib.hid (decide_eq_false hm)
                  have HND2 := Lib.hid (nodup_snoc HN2.out hm)
                  clear hm
                  go_wp2_with (first | (at_lookup; refine wpList_look_edge _ rfl _ _ rfl B _ L rfl (HES.out.kept (by repeat (first | exact Below.refl _ _ | refine Below.drew ?_ | refine Below.alloc ?_ (by first | exact Nat.le_refl _ | (simp; done) | (simp; omega) | omega) _ | refine Below.more ?_ (by first | exact Nat.le_refl _ | (simp; done) | (simp; omega) | omega) _ _ | refine Below.setCell ?_ (by first | exact Nat.le_refl _ | (simp; done) | (simp; omega) | omega) _ | assumption))) (x, y) HWF.out rfl ?_; rw [hdec.out]) | (at_mapUpdate; refine wpList_store_edge _ rfl _ _ _ rfl B _ L rfl (HES.out.kept (by repeat (first | exact Below.refl _ _ | refine Below.drew ?_ | refine Below.alloc ?_ (by first | exact Nat.le_refl _ | (simp; done) | (simp; omega) | omega) _ | refine Below.more ?_ (by first | exact Nat.le_refl _ | (simp; done) | (simp; omega) | omega) _ _ | refine Below.setCell ?_ (by first | exact Nat.le_refl _ | (simp; done) | (simp; omega) | omega) _ | assumption))) (by simp only [maxLen]; omega) (x, y) HWF.out rfl rfl ?_; intro w2 hes hchg; have HES2 := Lib.hid hes; have HCH := Lib.hid hchg; clear hes hchg))
                  refine ⟨⟨j + 1, by omega, rfl, Lib.hid (by rw [HSS.out]; exact HND2.out), by rw [HSS.out]; exact HES2.out, (HO.out.below (by repeat (first | exact Below.refl _ _ | refine Below.drew ?_ | refine Below.alloc ?_ (by first | exact Nat.le_refl _ | (simp; done) | (simp; omega) | omega) _ | refine Below.more ?_ (by first | exact Nat.le_refl _ | (simp; done) | (simp; omega) | omega) _ _ | refine Below.setCell ?_ (by first | exact Nat.le_refl _ | (simp; done) | (simp; omega) | omega) _ | assumption))).chg HCH.out (.inr hlo), Below.chg (Below.trans HBEL.out (by repeat (first | exact Below.refl _ _ | refine Below.drew ?_ | refine Below.alloc ?_ (by first | exact Nat.le_refl _ | (simp; done) | (simp; omega) | omega) _ | refine Below.more ?_ (by first | exact Nat.le_refl _ | (simp; done) | (simp; omega) | omega) _ _ | refine Below.setCell ?_ (by first | exact Nat.le_refl _ | (simp; done) | (simp; omega) | omega) _ | assumption))) HCH.out (by omega) (by simp; omega), cell_chg HCH.out (.inl (by omega)) (cell_below (show Below wr.heap.size wr _ from (by repeat (first | exact Below.refl _ _ | refine Below.drew ?_ | refine Below.alloc ?_ (by first | exact Nat.le_refl _ | (simp; done) | (simp; omega) | omega) _ | refine Below.more ?_ (by first | exact Nat.le_refl _ | (simp; done) | (simp; omega) | omega) _ _ | refine Below.setCell ?_ (by first | exact Nat.le_refl _ | (simp; done) | (simp; omega) | omega) _ | assumption))) q0), cell_chg HCH.out (.inl (by omega)) (cell_below (show Below wr.heap.size wr _ from (by repeat (first | exact Below.refl _ _ | refine Below.drew ?_ | refine Below.alloc ?_ (by first | exact Nat.le_refl _ | (simp; done) | (simp; omega) | omega) _ | refine Below.more ?_ (by first | exact Nat.le_refl _ | (simp; done) | (simp; omega) | omega) _ _ | refine Below.setCell ?_ (by first | exact Nat.le_refl _ | (simp; done) | (simp; omega) | omega) _ | assumption))) q1)⟩, by simp only [intOf]; omega⟩
              · have hj1 : ¬ (j : Int) < 4 := by omega
                obtain rfl : j = 4 := by omega
                have HE4 := Lib.hid (show L0 ++ stepsTo f 4 = edgesTo s (k + 1) by rw [HSU.out, stepsOf, HQL.out])
                go_wp2
                refine ⟨⟨k + 1, by omega, rfl, HYE, Lib.hid (by rw [← HE4.out]; exact HN2.out), by rw [← HE4.out]; exact HES.out, HBEL.out, q0, q1⟩, by simp only [intOf]; omega⟩
        · have hk1 : ¬ (k : Int) < (m : Int) := by omega
          obtain rfl : k = m := by omega
          have HR := Lib.hid (ALL.out (by omega) (by omega) HALLV.out HALL.out HND.out)
          go_wp2
          go_ret
          exact ⟨ret_bool HR.out.symm, HBEL.out⟩
end Go.Proofs.Ytpfmcobkfofbjaa
