/- Contracts of what the laws do with meshes. -/
import Derived.Test.YtbmhehjllchpoaaGreatRows2
import Derived.Test.YtbmhehjllchpoaaGreatSVec
import Derived.Test.YtbmhehjllchpoaaGreatOpen
namespace Go.Proofs.YtbmhehjllchpoaaGreat
open Go Go.RowKit
def faceAt (l : List (List Int)) (i : Nat) : List Int := l.getD i []
def facesAt (l : List (List Int)) (A : Nat → Option Addr) (K : Nat → Nat) (i : Nat) : List Value := [.slice (A i) (faceAt l i).length (K i)]
/-- The slice at a reads as the faces l. -/
def FsR (w : World) (a : Option Addr) (n : Nat) (l : List (List Int)) : Prop :=
  ∃ A K, Sl w a 1 n (facesAt l A K) ∧ (∀ i, i < n → Sl w (A i) 1 (faceAt l i).length (intAt (faceAt l i))) ∧ ∀ i, i < n → (faceAt l i).length ≤ K i
/-- .. in blocks of one's own. -/
def FsO (w : World) (lo hi : Nat) (a : Option Addr) (n : Nat) (l : List (List Int)) : Prop :=
  ∃ A K, Ow w lo (lo + 1) a 1 n (facesAt l A K) ∧ Rows w (lo + 1) hi n A (faceAt l) ∧ ∀ i, i < n → (faceAt l i).length ≤ K i
theorem FsR.below {w w' : World} {a : Option Addr} {n : Nat} {l : List (List Int)} (h : FsR w a n l) (b : Below w.heap.size w w') : FsR w' a n l := by
  obtain ⟨A, K, h1, h2, h3⟩ := h
  exact ⟨A, K, h1.below b, fun i hi => (h2 i hi).below b, h3⟩
theorem FsO.r {w : World} {lo hi : Nat} {a : Option Addr} {n : Nat} {l : List (List Int)} (h : FsO w lo hi a n l) : FsR w a n l := by
  obtain ⟨A, K, h1, h2, h3⟩ := h
  exact ⟨A, K, h1.sl, fun i hi => (h2.at hi).sl, h3⟩
theorem FsO.chg {w w' : World} {lo hi lo' hi' : Nat} {a : Option Addr} {n : Nat} {l : List (List Int)} (h : FsO w lo hi a n l) (k : Chg lo' hi' w w') (hd : hi ≤ lo' ∨ hi' ≤ lo) (hl : lo + 1 ≤ hi) : FsO w' lo hi a n l := by
  obtain ⟨A, K, h1, h2, h3⟩ := h
  exact ⟨A, K, h1.chg k (by omega), h2.chg k (by omega), h3⟩
theorem FsO.below {w w' : World} {lo hi : Nat} {a : Option Addr} {n : Nat} {l : List (List Int)} (h : FsO w lo hi a n l) (b : Below w.heap.size w w') : FsO w' lo hi a n l := by
  obtain ⟨A, K, h1, h2, h3⟩ := h
  exact ⟨A, K, h1.below b, h2.below b, h3⟩
theorem FsO.move {A B : World} {X : Array Obj} {d d' lo hi n : Nat} {a : Option Addr} {l : List (List Int)} (h : FsO (more A X d) lo hi a n l) (hlo : A.heap.size ≤ lo) (hs : B.heap.size = A.heap.size) : FsO (more B X d') lo hi a n l := by
  obtain ⟨A', K, h1, h2, h3⟩ := h
  exact ⟨A', K, h1.move hlo hs, h2.move (by omega) hs, h3⟩
/-- A mesh: its vertices, its faces. -/
structure MeshD where
  verts : List VecD
  faces : List (List Int)
  nV : Nat
  nF : Nat
  hV : verts.length = nV
  hF : faces.length = nF
def MeshR (w : World) (v : Value) (p : MeshD) : Prop :=
  ∃ a c a' c', v = .agg #[.slice a p.nV c, .slice a' p.nF c'] ∧ Sl w a 3 p.nV (VecD.at p.verts) ∧ FsR w a' p.nF p.faces
def MeshO (w : World) (lo hi : Nat) (v : Value) (p : MeshD) : Prop :=
  ∃ l1 mid a c a' c', v = .agg #[.slice a p.nV c, .slice a' p.nF c'] ∧ lo ≤ l1 ∧ l1 ≤ mid ∧ mid + 1 ≤ hi ∧ Ow w l1 mid a 3 p.nV (VecD.at p.verts) ∧ FsO w mid hi a' p.nF p.faces
theorem MeshR.below {w w' : World} {v : Value} {p : MeshD} (h : MeshR w v p) (b : Below w.heap.size w w') : MeshR w' v p := by
  obtain ⟨a, c, a', c', e, h1, h2⟩ := h
  exact ⟨a, c, a', c', e, h1.below b, h2.below b⟩
theorem MeshO.r {w : World} {lo hi : Nat} {v : Value} {p : MeshD} (h : MeshO w lo hi v p) : MeshR w v p := by
  obtain ⟨l1, mid, a, c, a', c', e, _, _, _, h1, h2⟩ := h
  exact ⟨a, c, a', c', e, h1.sl, h2.r⟩
theorem MeshO.chg {w w' : World} {lo hi lo' hi' : Nat} {v : Value} {p : MeshD} (h : MeshO w lo hi v p) (k : Chg lo' hi' w w') (hd : hi ≤ lo' ∨ hi' ≤ lo) : MeshO w' lo hi v p := by
  obtain ⟨l1, mid, a, c, a', c', e, k1, k2, k3, h1, h2⟩ := h
  exact ⟨l1, mid, a, c, a', c', e, k1, k2, k3, h1.chg k (by omega), h2.chg k (by omega) k3⟩
theorem MeshO.below {w w' : World} {lo hi : Nat} {v : Value} {p : MeshD} (h : MeshO w lo hi v p) (b : Below w.heap.size w w') : MeshO w' lo hi v p :=
  h.chg (Chg.of_below (lo := hi) (hi := hi) b) (.inl (Nat.le_refl _))
theorem FsO.wide {w : World} {lo hi hi' : Nat} {a : Option Addr} {n : Nat} {l : List (List Int)} (h : FsO w lo hi a n l) (h2 : hi ≤ hi') : FsO w lo hi' a n l := by
  obtain ⟨A, K, k1, k2, k3⟩ := h
  exact ⟨A, K, k1, k2.wide (Nat.le_refl _) h2, k3⟩
theorem MeshO.wide {w : World} {lo hi lo' hi' : Nat} {v : Value} {p : MeshD} (h : MeshO w lo hi v p) (h1 : lo' ≤ lo) (h2 : hi ≤ hi') : MeshO w lo' hi' v p := by
  obtain ⟨l1, mid, a, c, a', c', e, k1, k2, k3, k4, k5⟩ := h
  exact ⟨l1, mid, a, c, a', c', e, by omega, k2, by omega, k4, k5.wide h2⟩
/-- The lengths are within bounds. -/
def MeshSz (B : Nat) (p : MeshD) : Prop := p.nV ≤ B ∧ p.nF ≤ B ∧ ∀ i, i < p.nF → (faceAt p.faces i).length ≤ B
theorem info_Ints : (Tryz.prog.info? 41).map (fun i => (i.zero, i.size, i.bytes)) = some (some (.slice none 0 0), 1, 24) := by kernel_rfl
set_option maxRecDepth 100000 in
theorem make_Ints (n : Nat) (hn : n ≤ 1048576) (w : World) : ∃ arr : List Value, arr.length = n * 1 ∧ (Instr.makeSlice 23 (.int .i64 (n : Int)) (.int .i64 (n : Int))).run Tryz.prog w = .ok (.slice (some ⟨w.heap.size, 0, none⟩) n n) (w.alloc (.cells ⟨arr⟩ 41)) := by
  obtain ⟨i0, hi, hz0, hz1, hz2⟩ := info_parts info_Ints
  have h := run_make w 23 41 i0 _ Tryz.underlying23 hi hz0 .i64 .i64 (n : Int) (n : Int) (by omega) (by omega) (by rw [hz2]; omega) (by omega)
  rw [h]
  simp only [Int.toNat_natCast, hz1]
  refine ⟨(madeCells _ (n * 1)).toList, ?_, rfl⟩
  rw [Array.length_toList, size_madeCells]
/-- Faces of one's own come back. -/
def GivesFaces (w : World) (n : Nat) (l : List (List Int)) (e : Ending) (w' : World) : Prop :=
  ∃ a cap, e = .returned (.slice a n cap) ∧ FsO w' w.heap.size w'.heap.size a n l ∧ Below w.heap.size w w' ∧ w.heap.size + 1 ≤ w'.heap.size
set_option maxRecDepth 100000 in
set_option maxHeartbeats 1000000 in
theorem toIntSS_c (a : Option Addr) (cap : Nat) (l : List (List Int)) (n : Nat) (w : World) (hr : FsR w a n l) (hn : n ≤ 1048576) (hs : ∀ i, i < n → (faceAt l i).length ≤ 1048576) :
    Calls Tryz.prog 22 #[.slice a n cap] w (GivesFaces w n l) := by
  obtain ⟨arr0, ha0, hmk⟩ := make_Ints n hn w
  obtain ⟨A, K, hr1, hr2, hr3⟩ := hr
  have HR := Lib.hid hr1
  have HR2 := Lib.hid hr2
  have HA := Lib.hid ha0
  have HS := Lib.hid hs
  clear hr1 hr2 hr3 ha0 hs
  go_enter Tryz.func22, Tryz.ntmps22
  go_wp2
  go_loopw [4] (fun i wr => ∃ (k : Nat) (arr : List Value) (X : Array Obj) (d : Nat) (A2 : Nat → Option Addr) (K2 : Nat → Nat), k ≤ n ∧ i = .int .i64 k ∧ Filled arr 1 n k (facesAt l A2 K2) ∧ wr = more (w.alloc (.cells ⟨arr⟩ 41)) X d ∧ Rows (more (w.alloc (.cells ⟨arr⟩ 41)) X d) (w.heap.size + 1) (w.heap.size + 1 + X.size) k A2 (faceAt l) ∧ ∀ i, i < k → (faceAt l i).length ≤ K2 i) (fun i _ => n - (intOf i).toNat)
  case atStart => exact ⟨0, arr0, #[], _, fun _ => none, fun _ => 0, by omega, rfl, .start HA.out, more_self' _, Rows.zero (by simp), fun i hi => by omega⟩
  case round =>
    obtain ⟨k, arr, X, d, A2, K2, hk, rfl, hf, rfl, hrows, hcaps⟩ := hrel
    have HF := Lib.hid hf
    have HW := Lib.hid hrows
    have HCP := Lib.hid hcaps
    clear hf hrows hcaps
    by_cases hlt : k < n
    · have hk1 : (k : Int) < (n : Int) := by omega
      obtain ⟨b, o, rfl, hb, hc⟩ := HR.out (by omega)
      have HC := Lib.hid hc
      clear hc
      have g0 : k < arr.length := by rw [HF.out.1]; omega
      have c0 : w.cell? ⟨b, o + k, none⟩ = some (.slice (A k) (faceAt l k).length (K k)) := by have := HC.out k hlt 0 (by omega); rw [Nat.mul_one, Nat.add_zero] at this; exact this
      have hsl : Sl w (A k) 1 (faceAt l k).length (intAt (faceAt l k)) := HR2.out k hlt
      have hsn : (faceAt l k).length ≤ 1048576 := HS.out k hlt
      have hat : ∀ B J, facesAt l B J k = [.slice (B k) (faceAt l k).length (J k)] := fun _ _ => rfl
      have hlk : faceAt l k = faceAt l k := rfl
      generalize hx : faceAt l k = x at c0 hsl hsn hat
      generalize A k = ak at *
      generalize K k = kk at *
      have HT := Lib.hid hat
      have HX := Lib.hid hx
      have HSL := Lib.hid hsl
      clear hat hsl hx hlk
      go_wp2_with (go_at_call 37; refine (toIntS_k ak kk x _ _ (HSL.out.below (by repeat (first | exact Below.refl _ _ | refine Below.drew ?_ | refine Below.alloc ?_ (by first | exact Nat.le_refl _ | (simp; done) | (simp; omega) | omega) _ | refine Below.more ?_ (by first | exact Nat.le_refl _ | (simp; done) | (simp; omega) | omega) _ _ | refine Below.setCell ?_ (by first | exact Nat.le_refl _ | (simp; done) | (simp; omega) | omega) _ | assumption))) hsn).mono ?_; rintro e wn ⟨a', c', rfl, ho, hbn, hcap⟩; have HO := Lib.hid ho; clear ho; obtain ⟨Y, nX, rfl⟩ := Below.ext hbn; clear hbn)
      refine ⟨⟨k + 1, setRow arr (k * 1) [.slice a' x.length c'], X ++ Y, nX, upd A2 k a', upd K2 k c', by omega, by go_num, (HF.out.congr (fun i hi => ?_)).next hlt rfl (fun j _ => by rw [HT.out, upd_self, upd_self]), by simp [setRow], ?_, ?_⟩, by simp only [intOf]; omega⟩
      · unfold facesAt; rw [upd_lt hi, upd_lt hi]
      · have h1 := HO.out
        rw [more_more, ← HX.out] at h1
        exact Rows.snoc ((HW.out.below (more_app (Y := Y) (d' := nX))).move (by simp) (by simp)) ((h1.move (by simp) (by simp)).wide (by simp [Nat.add_assoc]) (by simp [Nat.add_assoc])) (Nat.le_refl _) (by simp)
      · intro i hi
        by_cases hik : i = k
        · subst hik; rw [upd_self, HX.out]; exact hcap
        · rw [upd_lt (by omega)]; exact HCP.out i (by omega)
    · have hk' : k = n := by omega
      have HK := Lib.hid hk'
      clear hk'
      go_wp2
      go_ret
      have hff := HF.out
      have hww := HW.out
      have hcc := HCP.out
      rw [HK.out] at hff hww hcc
      exact ⟨_, _, rfl, ⟨A2, K2, ow_new (e := 41) (by rw [heap_more _ (by simp), heap_alloc_new]) (Nat.le_refl _) (by omega) (by rw [hff.1]; exact Nat.le_refl _) hff.2, by simpa [Nat.add_assoc] using hww, hcc⟩, (by repeat (first | exact Below.refl _ _ | refine Below.drew ?_ | refine Below.alloc ?_ (by first | exact Nat.le_refl _ | (simp; done) | (simp; omega) | omega) _ | refine Below.more ?_ (by first | exact Nat.le_refl _ | (simp; done) | (simp; omega) | omega) _ _ | refine Below.setCell ?_ (by first | exact Nat.le_refl _ | (simp; done) | (simp; omega) | omega) _ | assumption)), by simp⟩
end Go.Proofs.YtbmhehjllchpoaaGreat
