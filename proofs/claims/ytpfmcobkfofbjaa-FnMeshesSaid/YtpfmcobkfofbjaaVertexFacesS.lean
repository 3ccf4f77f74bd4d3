/- VertexFacesS, with HasInt, VertexFaces ahead of it. -/
import Derived.Test.YtpfmcobkfofbjaaSInt
import Derived.Test.YtpfmcobkfofbjaaValidMesh
import Derived.Test.YtpfmcobkfofbjaaAppInt
import Derived.Test.YtpfmcobkfofbjaaValidMeshS
namespace Go.Proofs.Ytpfmcobkfofbjaa
open Go.RowKit
open Classical in
/-- x stands before place j. -/
noncomputable def inTo (f : List Int) (x : Int) (j : Nat) : Bool := decide (∃ t, t < j ∧ f.getD t 0 = x)
noncomputable def hasB (f : List Int) (x : Int) : Bool := inTo f x f.length
theorem inTo_zero (f : List Int) (x : Int) : inTo f x 0 = false := by simp [inTo]
theorem inTo_yes {f : List Int} {x : Int} {j t : Nat} (h : t < j) (e : f.getD t 0 = x) : inTo f x j = true := by
  simp only [inTo, decide_eq_true_eq]; exact ⟨t, h, e⟩
theorem inTo_no {f : List Int} {x : Int} {j : Nat} (h : ∀ t, t < j → f.getD t 0 ≠ x) : inTo f x j = false := by
  simp only [inTo, decide_eq_false_iff_not]; rintro ⟨t, h1, h2⟩; exact h t h1 h2
theorem inTo_succ_ne {f : List Int} {x : Int} {j : Nat} (h : f.getD j 0 ≠ x) : inTo f x (j + 1) = inTo f x j := by
  unfold inTo
  congr 1
  apply propext
  constructor
  · rintro ⟨t, h1, h2⟩
    refine ⟨t, ?_, h2⟩
    rcases Nat.lt_or_ge t j with h3 | h3
    · exact h3
    · obtain rfl : t = j := by omega
      exact absurd h2 h
  · rintro ⟨t, h1, h2⟩; exact ⟨t, by omega, h2⟩
set_option maxRecDepth 100000 in
theorem indexAny_c (a : Option Addr) (cap : Nat) (l : List Int) (n : Nat) (HN : Hid (l.length = n)) (v : Int) (w : World) (hr : Sl w a 1 n (intAt l)) (hn : n ≤ 1048576) :
    Calls Try.prog 53 #[.slice a n cap, .int .i64 v] w fun e w' => ∃ r : Int, e = .returned (.int .i64 r) ∧ w = w' ∧ (0 ≤ r ↔ hasB l v = true) := by
  have HR := Lib.hid hr
  clear hr
  go_enter Try.func53, Try.ntmps53
  go_wp2
  go_loop [8] (fun i => ∃ (j : Nat), j ≤ n ∧ i = .int .i64 j ∧ Hid (∀ t, t < j → l.getD t 0 ≠ v)) (fun i => n - (intOf i).toNat)
  case atStart => exact ⟨0, by omega, rfl, Lib.hid fun j hj => by omega⟩
  case round =>
    obtain ⟨j, hj, rfl, HALL⟩ := hrel
    by_cases hlt : j < n
    · have hj1 : (j : Int) < (n : Int) := by omega
      have hj2 : (0 : Int) ≤ (j : Int) := by omega
      obtain ⟨b, o, rfl, hb, hc⟩ := HR.out (by omega)
      have c0 : w.cell? ⟨b, o + j, none⟩ = some (.int .i64 (l.getD j 0)) := by
        have := hc j (by omega) 0 (by omega)
        rw [Nat.mul_one, Nat.add_zero] at this
        rw [this]; simp [intAt]
      clear hc
      have HY := Lib.hid (show l.getD j 0 = v → hasB l v = true from fun e => inTo_yes (by rw [HN.out]; exact hlt) e)
      have HX := Lib.hid (show l.getD j 0 ≠ v → ∀ t, t < j + 1 → l.getD t 0 ≠ v from fun h t ht => by
        by_cases e : t = j
        · subst e; exact h
        · exact HALL.out t (by omega))
      generalize l.getD j 0 = x at *
      by_cases hvx : v = x
      · have HF := Lib.hid (HY.out hvx.symm)
        subst hvx
        go_wp2
        go_ret
        exact ⟨(j : Int), rfl, rfl, by rw [HF.out]; simp⟩
      · have hb0 : (v == x) = false := by simpa using hvx
        have HF := Lib.hid (HX.out (fun e => hvx e.symm))
        clear hvx
        go_wp2
        go_round
        case rel => exact ⟨j + 1, by omega, rfl, HF⟩
        case measure => simp only [intOf]; omega
    · have hj1 : ¬ (j : Int) < (n : Int) := by omega
      have HF := Lib.hid (show hasB l v = false from inTo_no (fun t ht => HALL.out t (by rw [HN.out] at ht; omega)))
      go_wp2
      go_ret
      exact ⟨-1, rfl, rfl, by rw [HF.out]; simp⟩
theorem contains_c (a : Option Addr) (cap : Nat) (l : List Int) (n : Nat) (HN : Hid (l.length = n)) (v : Int) (w : World) (hr : Sl w a 1 n (intAt l)) (hn : n ≤ 1048576) :
    Calls Try.prog 60 #[.slice a n cap, .int .i64 v] w fun e w' => e = .returned (.bool (hasB l v)) ∧ w = w' := by
  have HR := Lib.hid hr
  clear hr
  go_enter Try.func60, Try.ntmps60
  go_wp2_with (go_at_call 53; refine (indexAny_c a cap l n HN v _ HR.out hn).mono ?_; rintro e w' ⟨r, rfl, rfl, hr⟩; have HR := Lib.hid hr; clear hr)
  all_goals
    go_ret
    refine ⟨ret_bool ?_, rfl⟩
    have := HR.out
    cases h : hasB l v <;> simp [h] at this ⊢ <;> omega
end Go.Proofs.Ytpfmcobkfofbjaa
namespace Go.Proofs.Ytpfmcobkfofbjaa
open Go Go.RowKit
/-- The faces before k that have the vertex x. -/
noncomputable def vfTo (s : List (List Int)) (x : Int) (k : Nat) : List Int := ((List.range k).filter fun i => hasB (faceAt s i) x).map fun i : Nat => (i : Int)
theorem vfTo_succ (s : List (List Int)) (x : Int) (k : Nat) : vfTo s x (k + 1) = vfTo s x k ++ (if hasB (faceAt s k) x then [(k : Int)] else []) := by
  simp only [vfTo, List.range_succ, List.filter_append, List.map_append, List.filter_cons, List.filter_nil]
  split <;> simp
theorem vfTo_len (s : List (List Int)) (x : Int) (k : Nat) : (vfTo s x k).length ≤ k := by
  have := List.length_filter_le (fun i => hasB (faceAt s i) x) (List.range k)
  simpa [vfTo] using this
noncomputable def vfacesD (p : MeshD) (x : Int) : List Int := if meshOkB p then vfTo p.faces x p.nF else []
theorem vfacesD_len (p : MeshD) (x : Int) : (vfacesD p x).length ≤ 1048576 := by
  unfold vfacesD
  split
  · have := vfTo_len p.faces x p.nF
    have h := (meshOkB_true.1 (by assumption)).2.1
    omega
  · simp
set_option maxRecDepth 100000 in
set_option maxHeartbeats 1000000 in
theorem impl_vertexFaces_c (v : Value) (p : MeshD) (x : Int) (w : World) (hr : MeshR w v p) (hs : MeshSz 1048576 p) :
    Calls Try.prog 44 #[v, .int .i64 x] w (Gives w 1 (vfTo p.faces x p.nF).length (intAt (vfTo p.faces x p.nF))) := by
  obtain ⟨a, c, a', c', rfl, h1, ⟨A, K, h2, h3, h4⟩⟩ := hr
  obtain ⟨hs1, hs2, hs3⟩ := hs
  generalize p.nV = n at *
  generalize p.nF = m at *
  generalize p.verts = l at *
  generalize p.faces = s at *
  have HF := Lib.hid h2
  have HQ := Lib.hid h3
  have HSZ := Lib.hid hs3
  clear h1 h2 h3 h4 hs3
  go_enter Try.func44, Try.ntmps44
  go_wp2
  go_loopw [5, 12] (fun out i wr => ∃ (k : Nat), k ≤ m ∧ i = .int .i64 k ∧ Below w.heap.size w wr ∧ w.heap.size + 1 ≤ wr.heap.size ∧ wr.ownsRow (w.heap.size + 1) 3 1 out (vfTo s x k).length ((vfTo s x k).map (.int .i64))) (fun _ i _ => m - (intOf i).toNat)
  case atStart =>
    refine ⟨0, by omega, rfl, (by repeat (first | exact Below.refl _ _ | refine Below.drew ?_ | refine Below.alloc ?_ (by first | exact Nat.le_refl _ | (simp; done) | (simp; omega) | omega) _ | refine Below.more ?_ (by first | exact Nat.le_refl _ | (simp; done) | (simp; omega) | omega) _ _ | refine Below.setCell ?_ (by first | exact Nat.le_refl _ | (simp; done) | (simp; omega) | omega) _ | assumption)), by simp, ?_⟩
    have hz := World.ownsRow_made (e := 3) (size := 1) (base := w.heap.size + 1) (w.alloc (.cells #[.slice a n c, .slice a' m c'] 26)) #[] 0 (by simp) (by decide) (by simp)
    simpa [vfTo] using hz
  case round =>
    obtain ⟨k, hk, rfl, hbel, hws, hown⟩ := hrel
    have HBEL := Lib.hid hbel
    have HOWN := Lib.hid hown
    clear hbel hown
    by_cases hlt : k < m
    · have hk1 : (k : Int) < (m : Int) := by omega
      obtain ⟨b, o, e, hb, hc⟩ := HF.out.below HBEL.out (by omega)
      subst e
      have c0 : wr.cell? ⟨b, o + k, none⟩ = some (.slice (A k) (faceAt s k).length (K k)) := by have := hc k hlt 0 (by omega); rw [Nat.mul_one, Nat.add_zero] at this; exact this
      clear hc
      have hsl : Sl wr (A k) 1 (faceAt s k).length (intAt (faceAt s k)) := (HQ.out k hlt).below HBEL.out
      have hsn := HSZ.out k hlt
      have HSU := Lib.hid (vfTo_succ s x k)
      have hln : (vfTo s x k).length ≤ 1048576 := Nat.le_trans (vfTo_len s x k) (by omega)
      generalize A k = ak at *
      generalize K k = kk at *
      generalize faceAt s k = f at *
      generalize vfTo s x k = L0 at *
      have HSL := Lib.hid hsl
      clear hsl
      generalize hq : f.length = q at *
      have HQL := Lib.hid hq
      clear hq
      cases hh : hasB f x
      · have HE := Lib.hid (show vfTo s x (k + 1) = L0 by rw [HSU.out, hh]; simp)
        have HH := Lib.hid hh
        clear hh
        go_wp2_with (go_at_call 60; refine (contains_c _ _ f q HQL x _ (HSL.out.below (by repeat (first | exact Below.refl _ _ | refine Below.drew ?_ | refine Below.alloc ?_ (by first | exact Nat.le_refl _ | (simp; done) | (simp; omega) | omega) _ | refine Below.more ?_ (by first | exact Nat.le_refl _ | (simp; done) | (simp; omega) | omega) _ _ | refine Below.setCell ?_ (by first | exact Nat.le_refl _ | (simp; done) | (simp; omega) | omega) _ | assumption))) hsn).mono ?_; rw [HH.out]; rintro e w' ⟨rfl, rfl⟩)
        refine ⟨⟨k + 1, by omega, rfl, Below.trans HBEL.out (by repeat (first | exact Below.refl _ _ | refine Below.drew ?_ | refine Below.alloc ?_ (by first | exact Nat.le_refl _ | (simp; done) | (simp; omega) | omega) _ | refine Below.more ?_ (by first | exact Nat.le_refl _ | (simp; done) | (simp; omega) | omega) _ _ | refine Below.setCell ?_ (by first | exact Nat.le_refl _ | (simp; done) | (simp; omega) | omega) _ | assumption)), by first | exact hws | (simp; omega), ?_⟩, by simp only [intOf]; omega⟩
        rw [HE.out]
        exact own_kept HOWN.out (by repeat (first | exact Below.refl _ _ | refine Below.drew ?_ | refine Below.alloc ?_ (by first | exact Nat.le_refl _ | (simp; done) | (simp; omega) | omega) _ | refine Below.more ?_ (by first | exact Nat.le_refl _ | (simp; done) | (simp; omega) | omega) _ _ | refine Below.setCell ?_ (by first | exact Nat.le_refl _ | (simp; done) | (simp; omega) | omega) _ | assumption))
      · have HE := Lib.hid (show vfTo s x (k + 1) = L0 ++ [(k : Int)] by rw [HSU.out, hh]; simp)
        have HH := Lib.hid hh
        clear hh
        go_wp2_with (first | (go_at_call 60; refine (contains_c _ _ f q HQL x _ (HSL.out.below (by repeat (first | exact Below.refl _ _ | refine Below.drew ?_ | refine Below.alloc ?_ (by first | exact Nat.le_refl _ | (simp; done) | (simp; omega) | omega) _ | refine Below.more ?_ (by first | exact Nat.le_refl _ | (simp; done) | (simp; omega) | omega) _ _ | refine Below.setCell ?_ (by first | exact Nat.le_refl _ | (simp; done) | (simp; omega) | omega) _ | assumption))) hsn).mono ?_; rw [HH.out]; rintro e w' ⟨rfl, rfl⟩) | (at_builtin; go_loud (refine wpList_append_int _ rfl _ _ rfl (w.heap.size + 1) _ _ _ rfl (own_kept HOWN.out (by repeat (first | exact Below.refl _ _ | refine Below.drew ?_ | refine Below.alloc ?_ (by first | exact Nat.le_refl _ | (simp; done) | (simp; omega) | omega) _ | refine Below.more ?_ (by first | exact Nat.le_refl _ | (simp; done) | (simp; omega) | omega) _ _ | refine Below.setCell ?_ (by first | exact Nat.le_refl _ | (simp; done) | (simp; omega) | omega) _ | assumption))) _ 1 rfl (k : Int) ?c1 hln ?c2 ?_)))
        case c1 => simp [go_sem]
        case c2 => simp; omega
        intro v' w' hp' hb'
        have HP' := Lib.hid hp'
        have HB' := Lib.hid (Below.trans HBEL.out (Below.trans (show Below w.heap.size wr _ from (by repeat (first | exact Below.refl _ _ | refine Below.drew ?_ | refine Below.alloc ?_ (by first | exact Nat.le_refl _ | (simp; done) | (simp; omega) | omega) _ | refine Below.more ?_ (by first | exact Nat.le_refl _ | (simp; done) | (simp; omega) | omega) _ _ | refine Below.setCell ?_ (by first | exact Nat.le_refl _ | (simp; done) | (simp; omega) | omega) _ | assumption))) (hb'.mono (Nat.le_succ _))))
        have hws' := Nat.le_trans hws (Nat.le_trans (show wr.heap.size ≤ _ from by simp) hb'.size)
        clear hp' hb'
        go_wp2
        refine ⟨⟨k + 1, by omega, rfl, HB'.out, hws', ?_⟩, by simp only [intOf]; omega⟩
        rw [HE.out, List.length_append, List.length_singleton, List.map_append]
        exact HP'.out
    · have hk1 : ¬ (k : Int) < (m : Int) := by omega
      obtain rfl : k = m := by omega
      go_wp2
      go_ret
      exact gives_ints HOWN.out HBEL.out (Nat.le_succ _)
end Go.Proofs.Ytpfmcobkfofbjaa
namespace Go.Proofs.Ytpfmcobkfofbjaa
open Go Go.RowKit
/-- The face k, where x stands in it before place j. -/
noncomputable def kIf (f : List Int) (x : Int) (j k : Nat) : List Int := if inTo f x j then [(k : Int)] else []
theorem kIf_len (f : List Int) (x : Int) (j k : Nat) : (kIf f x j k).length ≤ 1 := by unfold kIf; split <;> simp
end Go.Proofs.Ytpfmcobkfofbjaa
