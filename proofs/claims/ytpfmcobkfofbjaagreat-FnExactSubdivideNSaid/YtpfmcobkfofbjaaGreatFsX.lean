/- Rows of integers, of one's own, laid in whatever order: their marks. -/
import Derived.Test.YtpfmcobkfofbjaaGreatMarkMesh
namespace Go.Proofs.YtpfmcobkfofbjaaGreat
open Go Go.RowKit
def sumLen (l : List (List Int)) (k : Nat) : Nat := ((List.range k).map fun i => (faceAt l i).length).sum
theorem sumLen_succ (l : List (List Int)) (k : Nat) : sumLen l (k + 1) = sumLen l k + (faceAt l k).length := by simp [sumLen, List.range_succ]
theorem sumLen_le {l : List (List Int)} : ∀ {k : Nat}, (∀ i, i < k → (faceAt l i).length ≤ 1000) → sumLen l k ≤ 1000 * k
  | 0, _ => by simp [sumLen]
  | k + 1, h => by
    rw [sumLen_succ]
    have := sumLen_le (k := k) (fun i hi => h i (by omega))
    have := h k (by omega)
    omega
/-- What row i holds: its numbers, or its marks. -/
def fsC (l : List (List Int)) : Option Nat → Nat → Nat → List Value
  | none, i => intAt (faceAt l i)
  | some k0, i => intMk (faceAt l i) (k0 + sumLen l i)
/-- The slice at a reads as these rows. -/
def FsY (w : World) (a : Option Addr) (n : Nat) (l : List (List Int)) (M : Option Nat) : Prop :=
  ∃ (A : Nat → Option Addr) (K : Nat → Nat), Sl w a 1 n (facesAt l A K) ∧ (∀ i, i < n → Sl w (A i) 1 (faceAt l i).length (fsC l M i)) ∧ (∀ i, i < n → (faceAt l i).length ≤ K i) ∧ ∀ i, i < n → (faceAt l i).length ≤ 1000
/-- .. in blocks of one's own from lo on and before hi; d: no two rows one and the same. -/
def FsX (w : World) (lo hi : Nat) (d : Bool) (a : Option Addr) (n : Nat) (l : List (List Int)) (M : Option Nat) : Prop :=
  ∃ (A : Nat → Option Addr) (K B : Nat → Nat) (g : Nat), Ow w g (g + 1) a 1 n (facesAt l A K) ∧ (∀ i, i < n → lo ≤ B i ∧ B i < hi ∧ B i ≠ g ∧ Ow w (B i) (B i + 1) (A i) 1 (faceAt l i).length (fsC l M i)) ∧ (d = true → ∀ i j, i < j → j < n → B i ≠ B j) ∧ (0 < n → lo ≤ g ∧ g < hi) ∧ (∀ i, i < n → (faceAt l i).length ≤ K i) ∧ ∀ i, i < n → (faceAt l i).length ≤ 1000
theorem FsX.sl {w : World} {lo hi : Nat} {d : Bool} {a : Option Addr} {n : Nat} {l : List (List Int)} {M : Option Nat} (h : FsX w lo hi d a n l M) : FsY w a n l M := by
  obtain ⟨A, K, B, g, h1, h2, _, _, h3, h4⟩ := h
  exact ⟨A, K, h1.sl, fun i hi => (h2 i hi).2.2.2.sl, h3, h4⟩
theorem FsY.below {w w' : World} {a : Option Addr} {n : Nat} {l : List (List Int)} {M : Option Nat} (h : FsY w a n l M) (hb : Below w.heap.size w w') : FsY w' a n l M := by
  obtain ⟨A, K, h1, h2, h3⟩ := h
  exact ⟨A, K, h1.below hb, fun i hi => (h2 i hi).below hb, h3⟩
theorem FsX.chg {w w' : World} {lo hi lo' hi' : Nat} {d : Bool} {a : Option Addr} {n : Nat} {l : List (List Int)} {M : Option Nat} (h : FsX w lo hi d a n l M) (k : Chg lo' hi' w w') (hd : hi ≤ lo' ∨ hi' ≤ lo) : FsX w' lo hi d a n l M := by
  obtain ⟨A, K, B, g, h1, h2, h3, h4, h5⟩ := h
  refine ⟨A, K, B, g, fun hn => ?_, fun i hi => ?_, h3, h4, h5⟩
  · have := h4 hn
    exact h1.chg k (by omega) hn
  · obtain ⟨b1, b2, b3, b4⟩ := h2 i hi
    exact ⟨b1, b2, b3, b4.chg k (by omega)⟩
theorem FsX.below {w w' : World} {lo hi : Nat} {d : Bool} {a : Option Addr} {n : Nat} {l : List (List Int)} {M : Option Nat} (h : FsX w lo hi d a n l M) (hb : Below w.heap.size w w') : FsX w' lo hi d a n l M := by
  obtain ⟨A, K, B, g, h1, h2, h3, h4, h5⟩ := h
  exact ⟨A, K, B, g, h1.below hb, fun i hi => ⟨(h2 i hi).1, (h2 i hi).2.1, (h2 i hi).2.2.1, (h2 i hi).2.2.2.below hb⟩, h3, h4, h5⟩
theorem FsX.wide {w : World} {lo hi lo' hi' : Nat} {d : Bool} {a : Option Addr} {n : Nat} {l : List (List Int)} {M : Option Nat} (h : FsX w lo hi d a n l M) (h1 : lo' ≤ lo) (h2 : hi ≤ hi') : FsX w lo' hi' d a n l M := by
  obtain ⟨A, K, B, g, k1, k2, k3, k4, k5⟩ := h
  exact ⟨A, K, B, g, k1, fun i hi => ⟨by have := (k2 i hi).1; omega, by have := (k2 i hi).2.1; omega, (k2 i hi).2.2⟩, k3, fun hn => by have := k4 hn; omega, k5⟩
theorem FsY.r {w : World} {a : Option Addr} {n : Nat} {l : List (List Int)} (h : FsY w a n l none) : FsR w a n l := by
  obtain ⟨A, K, h1, h2, h3, h4⟩ := h
  exact ⟨A, K, h1, h2, h3⟩
theorem eqFsS_c (a a' : Option Addr) (cap cap' : Nat) (l : List (List Int)) (n : Nat) (w : World) (hr : FsY w a n l none) (hr' : FsY w a' n l none) (hn : n ≤ 1048576) :
    Calls Tryz.prog 32 #[.slice a n cap, .slice a' n cap'] w fun e w' => e = .returned (.bool true) ∧ Below w.heap.size w w' := by
  have h4 := hr
  obtain ⟨A, K, _, _, _, h5⟩ := h4
  exact eqIntSS_c a a' cap cap' l n w hr.r hr'.r hn (fun i hi => by have := h5 i hi; omega)
set_option maxRecDepth 100000 in
set_option maxHeartbeats 2000000 in
theorem markFsS_c (a : Option Addr) (cap : Nat) (l : List (List Int)) (n k0 lo hi : Nat) (w : World) (hown : FsX w lo hi true a n l none) (hn : n ≤ 1048576) (hk0 : k0 ≤ 1048576) :
    Calls Tryz.prog 34 #[.slice a n cap, .int .i64 (k0 : Int)] w fun e w' => e = .returned (.int .i64 ((k0 + sumLen l n : Nat) : Int)) ∧ FsX w' lo hi true a n l (some k0) ∧ Chg lo hi w w' := by
  by_cases h00 : n = 0
  · subst h00
    obtain ⟨A, K, B, g, _⟩ := hown
    go_enter Tryz.func34, Tryz.ntmps34
    go_wp2
    go_rounds 1
    go_ret
    exact ⟨by simp [sumLen], ⟨A, K, B, g, Ow.none, fun i hi => absurd hi (Nat.not_lt_zero _), fun _ i j _ hj => absurd hj (Nat.not_lt_zero _), fun h => absurd h (Nat.lt_irrefl _), fun i hi => absurd hi (Nat.not_lt_zero _), fun i hi => absurd hi (Nat.not_lt_zero _)⟩, Chg.refl _ _ _⟩
  · obtain ⟨A, K, B, g, h1, h2, h3, h4, h5, h6⟩ := hown
    have HOUT := Lib.hid h1
    obtain ⟨g', arr0, e, rfl, hlo, hhi, hg, hl, hx⟩ := h1 (by omega)
    obtain rfl : g' = g := by omega
    have hgs := (Array.getElem?_eq_some_iff.1 hg).1
    have hgl := h4 (by omega)
    have HX := Lib.hid hx
    have HB := Lib.hid h2
    have HD := Lib.hid (h3 rfl)
    have HS := Lib.hid h6
    have HG := Lib.hid hg
    have HK5 := Lib.hid h5
    clear hg hx h2 h3 hl h1 h4 h5 h6
    have HSU := Lib.hid (sumLen_succ l)
    have HSL := Lib.hid (fun k (hk : k ≤ n) => sumLen_le (l := l) (k := k) (fun i hi => HS.out i (by omega)))
    have HSZ := Lib.hid (show sumLen l 0 = 0 from rfl)
    go_enter Tryz.func34, Tryz.ntmps34
    go_wp2
    go_loopw [1, 5] (fun k i wr => ∃ (m : Nat), m ≤ n ∧ i = .int .i64 m ∧ k = .int .i64 ((k0 + sumLen l m : Nat) : Int) ∧ wr.heap[g']? = some (.cells ⟨arr0⟩ e (0, 0)) ∧ Hid (∀ i, i < n → Ow wr (B i) (B i + 1) (A i) 1 (faceAt l i).length (if i < m then fsC l (some k0) i else fsC l none i)) ∧ Chg lo hi w wr) (fun _ i _ => n - (intOf i).toNat)
    case atStart => exact ⟨0, by omega, rfl, by rw [HSZ.out, Nat.add_zero], HG.out, Lib.hid (fun i hi => (HB.out i hi).2.2.2), Chg.refl _ _ _⟩
    case round =>
      obtain ⟨m, hm, rfl, rfl, hg, HO2, hchg⟩ := hrel
      have hgw := (Array.getElem?_eq_some_iff.1 hg).1
      have HG2 := Lib.hid hg
      have HC2 := Lib.hid hchg
      clear hchg hg
      by_cases hlt : m < n
      · have hk1 : (m : Int) < (n : Int) := by omega
        have hk0' : (0 : Int) ≤ (m : Int) := by omega
        have c0 : wr.cell? ⟨g', m, none⟩ = some (.slice (A m) (faceAt l m).length (K m)) := by
          rw [cell_of_row wr g' m ⟨arr0⟩ e (0, 0) HG2.out]
          have := HX.out m hlt 0 (by omega)
          rw [Nat.mul_one, Nat.add_zero] at this
          simpa [facesAt] using this
        have HOM := Lib.hid (show Ow wr (B m) (B m + 1) (A m) 1 (faceAt l m).length (intAt (faceAt l m)) from by have := HO2.out m hlt; rw [if_neg (Nat.lt_irrefl _)] at this; exact this)
        have HBM := Lib.hid (HB.out m hlt)
        have hsn := HS.out m hlt
        have hsl := HSL.out m hm
        have HSU1 := Lib.hid (HSU.out m)
        have HMK := Lib.hid (show ∀ w2, Ow w2 (B m) (B m + 1) (A m) 1 (faceAt l m).length (intMk (faceAt l m) (k0 + sumLen l m)) → Ow w2 (B m) (B m + 1) (A m) 1 (faceAt l m).length (fsC l (some k0) m) from fun _ h => h)
        go_wp2_with fail
        refine (markIntS_i _ (k0 + sumLen l m) rfl _ _ (faceAt l m) _ (B m) (B m + 1) _ HOM.out (by omega) (by omega)).mono ?_
        rintro e2 w2 ⟨rfl, ho2, g2⟩
        have HG3 := Lib.hid g2
        have HO3 := Lib.hid (HMK.out w2 ho2)
        clear g2 ho2
        go_wp2
        have hq := HBM.out
        refine ⟨⟨m + 1, by omega, by go_num, by rw [HSU1.out]; first | (congr 1; omega) | (simp; omega), ?_, Lib.hid fun i hi => ?_, ?_⟩, by simp only [intOf]; omega⟩
        · rw [HG3.out.block g' hgw (by have := hq.2.2.1; omega)]; exact HG2.out
        · by_cases him : i = m
          · subst him; rw [if_pos (Nat.lt_succ_self _)]; exact HO3.out
          · have hne : B i ≠ B m := by
              by_cases hlt2 : i < m
              · exact HD.out i m hlt2 hlt
              · exact (HD.out m i (by omega) hi).symm
            have h8 := (HO2.out i hi).chg HG3.out (by omega)
            by_cases hlt2 : i < m
            · rw [if_pos hlt2] at h8; rw [if_pos (by omega)]; exact h8
            · rw [if_neg hlt2] at h8; rw [if_neg (by omega)]; exact h8
        · exact HC2.out.trans (HG3.out.wide (by omega) (by omega))
      · have hk1 : ¬ (m : Int) < (n : Int) := by omega
        have hk' : m = n := by omega
        have HF := Lib.hid (show ∀ i, i < n → Ow wr (B i) (B i + 1) (A i) 1 (faceAt l i).length (fsC l (some k0) i) from fun i hi => by have := HO2.out i hi; rw [if_pos (by omega)] at this; exact this)
        have HOG : Hid (Ow wr g' (g' + 1) (some ⟨g', 0, none⟩) 1 n (facesAt l A K)) := Lib.hid (fun hn => by
          obtain ⟨g2, arr2, e2, h1, h2, h3, h4, h5, h6⟩ := HOUT.out hn
          simp only [Option.some.injEq, Addr.mk.injEq, and_true] at h1
          obtain rfl := h1
          rw [HG.out] at h4
          simp only [Option.some.injEq, Obj.cells.injEq, Array.mk.injEq] at h4
          obtain ⟨rfl, rfl, _⟩ := h4
          exact ⟨_, _, _, rfl, h2, h3, HG2.out, h5, h6⟩)
        have HKN := Lib.hid hk'
        clear hk'
        go_wp2
        go_ret
        exact ⟨by first | (rw [HKN.out]; done) | (rw [HKN.out]; rfl), ⟨A, K, B, g', HOG.out, fun i hi => ⟨(HB.out i hi).1, (HB.out i hi).2.1, (HB.out i hi).2.2.1, HF.out i hi⟩, fun _ => HD.out, fun _ => hgl, HK5.out, HS.out⟩, HC2.out⟩
set_option maxRecDepth 100000 in
set_option maxHeartbeats 2000000 in
theorem heldFsS_c (a : Option Addr) (cap : Nat) (l : List (List Int)) (n k0 : Nat) (w : World) (hr : FsY w a n l (some k0)) (hn : n ≤ 1048576) (hk0 : k0 ≤ 1048576) :
    Calls Tryz.prog 36 #[.slice a n cap, .int .i64 (k0 : Int)] w fun e w' => e = .returned (.int .i64 ((k0 + sumLen l n : Nat) : Int)) ∧ Below w.heap.size w w' := by
  obtain ⟨A, K, h1, h2, _, h6⟩ := hr
  have HR := Lib.hid h1
  have HQ := Lib.hid h2
  have HS := Lib.hid h6
  clear h1 h2 h6
  have HSU := Lib.hid (sumLen_succ l)
  have HSL := Lib.hid (fun k (hk : k ≤ n) => sumLen_le (l := l) (k := k) (fun i hi => HS.out i (by omega)))
  have HSZ := Lib.hid (show sumLen l 0 = 0 from rfl)
  go_enter Tryz.func36, Tryz.ntmps36
  go_wp2
  go_loopw [1, 5] (fun k i wr => ∃ (m : Nat), m ≤ n ∧ i = .int .i64 m ∧ k = .int .i64 ((k0 + sumLen l m : Nat) : Int) ∧ Below w.heap.size w wr) (fun _ i _ => n - (intOf i).toNat)
  case atStart => exact ⟨0, by omega, rfl, by rw [HSZ.out, Nat.add_zero], (by repeat (first | exact Below.refl _ _ | refine Below.drew ?_ | refine Below.alloc ?_ (by first | exact Nat.le_refl _ | (simp; done) | (simp; omega) | omega) _ | refine Below.more ?_ (by first | exact Nat.le_refl _ | (simp; done) | (simp; omega) | omega) _ _ | refine Below.setCell ?_ (by first | exact Nat.le_refl _ | (simp; done) | (simp; omega) | omega) _ | assumption))⟩
  case round =>
    obtain ⟨m, hm, rfl, rfl, hbel⟩ := hrel
    have HBEL := Lib.hid hbel
    clear hbel
    by_cases hlt : m < n
    · have hk1 : (m : Int) < (n : Int) := by omega
      have hk0' : (0 : Int) ≤ (m : Int) := by omega
      obtain ⟨b, o, rfl, hb, hc⟩ := HR.out.below HBEL.out (by omega)
      have c0 : wr.cell? ⟨b, o + m, none⟩ = some (.slice (A m) (faceAt l m).length (K m)) := by have := hc m hlt 0 (by omega); rw [Nat.mul_one, Nat.add_zero] at this; exact this
      clear hc
      have HSM := Lib.hid (show Sl w (A m) 1 (faceAt l m).length (intMk (faceAt l m) (k0 + sumLen l m)) from HQ.out m hlt)
      have hsn := HS.out m hlt
      have hsl := HSL.out m hm
      have hpos : ¬ (((k0 + sumLen l m + (faceAt l m).length : Nat) : Int) < 0) := by omega
      have HSU1 := Lib.hid (HSU.out m)
      go_wp2_with fail
      refine (heldIntS_c _ _ (faceAt l m) _ (k0 + sumLen l m) _ (HSM.out.below HBEL.out) (by omega) (by omega)).mono ?_
      rintro e2 w2 ⟨rfl, hb2⟩
      have HB2 := Lib.hid hb2
      clear hb2
      go_wp2
      refine ⟨⟨m + 1, by omega, by go_num, by rw [HSU1.out]; first | (congr 1; omega) | (simp; omega), HBEL.out.trans (HB2.out.mono HBEL.out.size)⟩, by simp only [intOf]; omega⟩
    · have hk1 : ¬ (m : Int) < (n : Int) := by omega
      have HKN := Lib.hid (show m = n by omega)
      go_wp2
      go_ret
      exact ⟨by first | (rw [HKN.out]; done) | (rw [HKN.out]; rfl), HBEL.out⟩
end Go.Proofs.YtpfmcobkfofbjaaGreat
