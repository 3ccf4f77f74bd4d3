/- Contracts of impl.allEdges, boundary, pairs, Edges, BoundaryEdges, IsClosed. -/
import Derived.Test.YtbmhehjllchpoaaGreatSortedEdges
import Derived.Test.YtbmhehjllchpoaaGreatPairsB
import Derived.Test.YtbmhehjllchpoaaGreatEdgeFaces
set_option linter.unusedSimpArgs false
set_option linter.unusedVariables false
namespace Go.Proofs.YtbmhehjllchpoaaGreat
open Go Go.RowKit Go.Maps
/-- The edges with one face. -/
def bndL (s : List (List Int)) (k : Nat) : List (Int × Int) := (edgesL s k).filter fun p => decide ((hitsTo s p k).length = 1)
theorem bndL_len (s : List (List Int)) (k : Nat) : (bndL s k).length ≤ 4 * k := Nat.le_trans (List.length_filter_le _ _) (edgesL_len s k)
theorem edgesL_le {s : List (List Int)} {k : Nat} (hk : k ≤ 64) : (edgesL s k).length ≤ 1048576 := by have := edgesL_len s k; omega
theorem bndL_le {s : List (List Int)} {k : Nat} (hk : k ≤ 64) : (bndL s k).length ≤ 1048576 := by have := bndL_len s k; omega
theorem sort_bnd (s : List (List Int)) (k : Nat) : sortE ((keysTo s k).filter fun p => qBnd (hitsTo s p k).length) = bndL s k := sortE_filter s k _
theorem sort_all (s : List (List Int)) (k : Nat) : sortE ((keysTo s k).filter fun p => qAll (hitsTo s p k).length) = edgesL s k := by
  rw [sortE_filter]
  exact List.filter_eq_self.2 fun _ _ => rfl
theorem own_base {w : World} {B base : Nat} {e : TypeId} {s : Nat} {v : Value} {n : Nat} {xs : List Value} (h : w.ownsRow B e s v n xs) (hb : base ≤ B) : w.ownsRow base e s v n xs :=
  ⟨h.1, h.2.imp id fun ⟨g, cap, cur, e1, hbg, r⟩ => ⟨g, cap, cur, e1, Nat.le_trans hb hbg, r⟩⟩
noncomputable def edgesD (p : MeshD) : List (Int × Int) := if meshOkB p then edgesL p.faces p.nF else []
noncomputable def bndD (p : MeshD) : List (Int × Int) := if meshOkB p then bndL p.faces p.nF else []
noncomputable def closedD (p : MeshD) : Bool := meshOkB p && decide (0 < p.nF) && decide ((bndD p).length = 0)
theorem edgesD_le (p : MeshD) : (edgesD p).length ≤ 256 := by
  unfold edgesD
  split
  · have := edgesL_len p.faces p.nF
    have := (meshOkB_true.1 (by assumption)).2.1
    omega
  · simp
theorem bndD_le (p : MeshD) : (bndD p).length ≤ 256 := by
  unfold bndD
  split
  · have := bndL_len p.faces p.nF
    have := (meshOkB_true.1 (by assumption)).2.1
    omega
  · simp
set_option maxRecDepth 100000 in
set_option maxHeartbeats 1000000 in
theorem impl_bnd_c (v : Value) (p : MeshD) (w : World) (hr : MeshR w v p) (hs : MeshSz 1048576 p) (hok : meshOk p) :
    Calls Tryz.prog 43 #[v] w fun e w' => ∃ u, e = .returned u ∧ w'.ownsRow (w.heap.size + 1) 63 2 u (bndL p.faces p.nF).length (edgeVals (bndL p.faces p.nF)) ∧ Below w.heap.size w w' := by
  have HT := Lib.hid (fun (W : World) (h : Below w.heap.size w W) => edgeTable_c v p W (hr.below h) hs hok)
  have HKL := Lib.hid (show (keysTo p.faces p.nF).length ≤ 1048576 from by rw [← edges_len]; exact edgesL_le hok.2.1)
  obtain ⟨a, c, a', c', rfl, _, _⟩ := hr
  obtain ⟨R, hR⟩ : ∃ R, R = bndL p.faces p.nF := ⟨_, rfl⟩
  rw [← hR]
  have HR := Lib.hid (hR.trans (sort_bnd p.faces p.nF).symm)
  clear hR hs hok
  go_enter Tryz.func43, Tryz.ntmps43
  go_wp2_with (first | (go_at_call 60; refine (HT.out _ (by repeat (first | exact Below.refl _ _ | refine Below.drew ?_ | refine Below.alloc ?_ (by first | exact Nat.le_refl _ | (simp; done) | (simp; omega) | omega) _ | refine Below.more ?_ (by first | exact Nat.le_refl _ | (simp; done) | (simp; omega) | omega) _ _ | refine Below.setCell ?_ (by first | exact Nat.le_refl _ | (simp; done) | (simp; omega) | omega) _ | assumption))).mono ?_; rintro e wn ⟨b, F, rfl, hg, hb0, hbn⟩; have HG := Lib.hid hg; have HBN := Lib.hid hbn; clear hg hbn) | (go_at_call 59; refine (sorted_bnd _ b _ _ F _ _ HG.out HKL.out).mono ?_; rintro e w2 ⟨u, rfl, ho, hb2⟩; have HO := Lib.hid ho; have HB2 := Lib.hid hb2; clear ho hb2))
  go_ret
  have hs1 := HBN.out.size
  simp only [World.size_alloc] at hs1
  exact ⟨u, rfl, by rw [HR.out]; exact own_base HO.out (by omega), Below.trans (Below.trans (show Below w.heap.size w _ from (by repeat (first | exact Below.refl _ _ | refine Below.drew ?_ | refine Below.alloc ?_ (by first | exact Nat.le_refl _ | (simp; done) | (simp; omega) | omega) _ | refine Below.more ?_ (by first | exact Nat.le_refl _ | (simp; done) | (simp; omega) | omega) _ _ | refine Below.setCell ?_ (by first | exact Nat.le_refl _ | (simp; done) | (simp; omega) | omega) _ | assumption))) (HBN.out.mono (by simp))) (HB2.out.mono (by omega))⟩
set_option maxRecDepth 100000 in
set_option maxHeartbeats 1000000 in
theorem impl_all_c (v : Value) (p : MeshD) (w : World) (hr : MeshR w v p) (hs : MeshSz 1048576 p) (hok : meshOk p) :
    Calls Tryz.prog 48 #[v] w fun e w' => ∃ u, e = .returned u ∧ w'.ownsRow (w.heap.size + 1) 63 2 u (edgesL p.faces p.nF).length (edgeVals (edgesL p.faces p.nF)) ∧ Below w.heap.size w w' := by
  have HT := Lib.hid (fun (W : World) (h : Below w.heap.size w W) => edgeTable_c v p W (hr.below h) hs hok)
  have HKL := Lib.hid (show (keysTo p.faces p.nF).length ≤ 1048576 from by rw [← edges_len]; exact edgesL_le hok.2.1)
  obtain ⟨a, c, a', c', rfl, _, _⟩ := hr
  obtain ⟨R, hR⟩ : ∃ R, R = edgesL p.faces p.nF := ⟨_, rfl⟩
  rw [← hR]
  have HR := Lib.hid (hR.trans (sort_all p.faces p.nF).symm)
  clear hR hs hok
  go_enter Tryz.func48, Tryz.ntmps48
  go_wp2_with (first | (go_at_call 60; refine (HT.out _ (by repeat (first | exact Below.refl _ _ | refine Below.drew ?_ | refine Below.alloc ?_ (by first | exact Nat.le_refl _ | (simp; done) | (simp; omega) | omega) _ | refine Below.more ?_ (by first | exact Nat.le_refl _ | (simp; done) | (simp; omega) | omega) _ _ | refine Below.setCell ?_ (by first | exact Nat.le_refl _ | (simp; done) | (simp; omega) | omega) _ | assumption))).mono ?_; rintro e wn ⟨b, F, rfl, hg, hb0, hbn⟩; have HG := Lib.hid hg; have HBN := Lib.hid hbn; clear hg hbn) | (go_at_call 59; refine (sorted_all _ b _ _ F _ _ HG.out HKL.out).mono ?_; rintro e w2 ⟨u, rfl, ho, hb2⟩; have HO := Lib.hid ho; have HB2 := Lib.hid hb2; clear ho hb2))
  go_ret
  have hs1 := HBN.out.size
  simp only [World.size_alloc] at hs1
  exact ⟨u, rfl, by rw [HR.out]; exact own_base HO.out (by omega), Below.trans (Below.trans (show Below w.heap.size w _ from (by repeat (first | exact Below.refl _ _ | refine Below.drew ?_ | refine Below.alloc ?_ (by first | exact Nat.le_refl _ | (simp; done) | (simp; omega) | omega) _ | refine Below.more ?_ (by first | exact Nat.le_refl _ | (simp; done) | (simp; omega) | omega) _ _ | refine Below.setCell ?_ (by first | exact Nat.le_refl _ | (simp; done) | (simp; omega) | omega) _ | assumption))) (HBN.out.mono (by simp))) (HB2.out.mono (by omega))⟩
theorem PairsIn.nilv {w : World} {lo hi : Nat} : PairsIn w lo hi (.slice none 0 0) [] (fun _ => none) :=
  ⟨World.ownsRow_nil _ _ _ _, fun b e => by simp [Value.ownBlock] at e, fun i hi => absurd hi (Nat.not_lt_zero _)⟩
theorem PairsIn.lower {w : World} {lo lo' hi : Nat} {v : Value} {L : List (Int × Int)} {A : Nat → Option Addr} (h : PairsIn w lo hi v L A) (hl : lo' ≤ lo) : PairsIn w lo' hi v L A :=
  ⟨own_base h.own hl, h.top, fun i hi => by obtain ⟨g, a, b, c, d⟩ := h.pair i hi; exact ⟨g, a, Nat.le_trans hl b, c, d⟩⟩
/-- Rows of pairs of one's own come back, no two one and the same. -/
def GivesPairs (w : World) (L : List (Int × Int)) (e : Ending) (w' : World) : Prop :=
  ∃ v A, e = .returned v ∧ PairsIn w' w.heap.size w'.heap.size v L A ∧ (∀ i j, i < j → j < L.length → A i ≠ A j) ∧ Below w.heap.size w w'
end Go.Proofs.YtbmhehjllchpoaaGreat
