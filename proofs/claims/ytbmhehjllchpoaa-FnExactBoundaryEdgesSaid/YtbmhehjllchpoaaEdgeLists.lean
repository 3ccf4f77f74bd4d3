/- Contracts of impl.allEdges, boundary, pairs, Edges, BoundaryEdges, IsClosed. -/
import Derived.Test.YtbmhehjllchpoaaSortedEdges
import Derived.Test.YtbmhehjllchpoaaPairsB
import Derived.Test.YtbmhehjllchpoaaEdgeFaces
namespace Go.Proofs.Ytbmhehjllchpoaa
open Go Go.RowKit Go.Maps
/-- The edges with one face. -/
def bndL (s : List (List Int)) (k : Nat) : List (Int × Int) := (edgesL s k).filter fun p => decide ((hitsTo s p k).length = 1)
theorem bndL_len (s : List (List Int)) (k : Nat) : (bndL s k).length ≤ 4 * k := Nat.le_trans (List.length_filter_le _ _) (edgesL_len s k)
theorem edgesL_le {s : List (List Int)} {k : Nat} (hk : k ≤ 64) : (edgesL s k).length ≤ 1048576 := by have := edgesL_len s k; omega
theorem bndL_le {s : List (List Int)} {k : Nat} (hk : k ≤ 64) : (bndL s k).length ≤ 1048576 := by have := bndL_len s k; omega
theorem sort_bnd (s : List (List Int)) (k : Nat) : sortE ((keysTo s k).filter fun p => qBnd (hitsTo s p k).length) = bndL s k := sortE_filter s k _
theorem sort_all (s : List (List Int)) (k : Nat) : sortE ((keysTo s k).filter fun p => qAll (hitsTo s p k).length) = edgesL s k := by
  rw [sortE_filter]
  exact List.filter_eq_self.2 fun _ _ => rfl
theorem own_base {w : World} {B base : Nat} {e : TypeId} {s : Nat} {v : Value} {n : Nat} {xs : List Value} (h : w.ownsRow B e s v n xs) (hb : base ≤ B) : w.ownsRow base e s v n xs :=
  ⟨h.1, h.2.imp id fun ⟨g, cap, cur, e1, hbg, r⟩ => ⟨g, cap, cur, e1, Nat.le_trans hb hbg, r⟩⟩
noncomputable def edgesD (p : MeshD) : List (Int × Int) := if meshOkB p then edgesL p.faces p.nF else []
noncomputable def bndD (p : MeshD) : List (Int × Int) := if meshOkB p then bndL p.faces p.nF else []
noncomputable def closedD (p : MeshD) : Bool := meshOkB p && decide (0 < p.nF) && decide ((bndD p).length = 0)
theorem edgesD_le (p : MeshD) : (edgesD p).length ≤ 256 := by
  unfold edgesD
  split
  · have := edgesL_len p.faces p.nF
    have := (meshOkB_true.1 (by assumption)).2.1
    omega
  · simp
theorem bndD_le (p : MeshD) : (bndD p).length ≤ 256 := by
  unfold bndD
  split
  · have := bndL_len p.faces p.nF
    have := (meshOkB_true.1 (by assumption)).2.1
    omega
  · simp
set_option maxRecDepth 100000 in
set_option maxHeartbeats 1000000 in
theorem impl_bnd_c (v : Value) (p : MeshD) (w : World) (hr : MeshR w v p) (hs : MeshSz 1048576 p) (hok : meshOk p) :
    Calls Try.prog 73 #[v] w fun e w' => ∃ u, e = .returned u ∧ w'.ownsRow (w.heap.size + 1) 65 2 u (bndL p.faces p.nF).length (edgeVals (bndL p.faces p.nF)) ∧ Below w.heap.size w w' := by
  have HT := Lib.hid (fun (W : World) (h : Below w.heap.size w W) => edgeTable_c v p W (hr.below h) hs hok)
  have HKL := Lib.hid (show (keysTo p.faces p.nF).length ≤ 1048576 from by rw [← edges_len]; exact edgesL_le hok.2.1)
  obtain ⟨a, c, a', c', rfl, _, _⟩ := hr
  obtain ⟨R, hR⟩ : ∃ R, R = bndL p.faces p.nF := ⟨_, rfl⟩
  rw [← hR]
  have HR := Lib.hid (hR.trans (sort_bnd p.faces p.nF).symm)
  clear hR hs hok
  go_enter Try.func73, Try.ntmps73
  go_wp2_with (first | (go_at_call 69; refine (HT.out _ (by repeat (first | exact Below.refl _ _ | refine Below.drew ?_ | refine Below.alloc ?_ (by first | exact Nat.le_refl _ | (simp; done) | (simp; omega) | omega) _ | refine Below.more ?_ (by first | exact Nat.le_refl _ | (simp; done) | (simp; omega) | omega) _ _ | refine Below.setCell ?_ (by first | exact Nat.le_refl _ | (simp; done) | (simp; omega) | omega) _ | assumption))).mono ?_; rintro e wn ⟨b, F, rfl, hg, hb0, hbn⟩; have HG := Lib.hid hg; have HBN := Lib.hid hbn; clear hg hbn) | (go_at_call 93; refine (sorted_bnd _ b _ _ F _ _ HG.out HKL.out).mono ?_; rintro e w2 ⟨u, rfl, ho, hb2⟩; have HO := Lib.hid ho; have HB2 := Lib.hid hb2; clear ho hb2))
  go_ret
  have hs1 := HBN.out.size
  simp only [World.size_alloc] at hs1
  exact ⟨u, rfl, by rw [HR.out]; exact own_base HO.out (by omega), Below.trans (Below.trans (show Below w.heap.size w _ from (by repeat (first | exact Below.refl _ _ | refine Below.drew ?_ | refine Below.alloc ?_ (by first | exact Nat.le_refl _ | (simp; done) | (simp; omega) | omega) _ | refine Below.more ?_ (by first | exact Nat.le_refl _ | (simp; done) | (simp; omega) | omega) _ _ | refine Below.setCell ?_ (by first | exact Nat.le_refl _ | (simp; done) | (simp; omega) | omega) _ | assumption))) (HBN.out.mono (by simp))) (HB2.out.mono (by omega))⟩
set_option maxRecDepth 100000 in
set_option maxHeartbeats 1000000 in
theorem impl_all_c (v : Value) (p : MeshD) (w : World) (hr : MeshR w v p) (hs : MeshSz 1048576 p) (hok : meshOk p) :
    Calls Try.prog 78 #[v] w fun e w' => ∃ u, e = .returned u ∧ w'.ownsRow (w.heap.size + 1) 65 2 u (edgesL p.faces p.nF).length (edgeVals (edgesL p.faces p.nF)) ∧ Below w.heap.size w w' := by
  have HT := Lib.hid (fun (W : World) (h : Below w.heap.size w W) => edgeTable_c v p W (hr.below h) hs hok)
  have HKL := Lib.hid (show (keysTo p.faces p.nF).length ≤ 1048576 from by rw [← edges_len]; exact edgesL_le hok.2.1)
  obtain ⟨a, c, a', c', rfl, _, _⟩ := hr
  obtain ⟨R, hR⟩ : ∃ R, R = edgesL p.faces p.nF := ⟨_, rfl⟩
  rw [← hR]
  have HR := Lib.hid (hR.trans (sort_all p.faces p.nF).symm)
  clear hR hs hok
  go_enter Try.func78, Try.ntmps78
  go_wp2_with (first | (go_at_call 69; refine (HT.out _ (by repeat (first | exact Below.refl _ _ | refine Below.drew ?_ | refine Below.alloc ?_ (by first | exact Nat.le_refl _ | (simp; done) | (simp; omega) | omega) _ | refine Below.more ?_ (by first | exact Nat.le_refl _ | (simp; done) | (simp; omega) | omega) _ _ | refine Below.setCell ?_ (by first | exact Nat.le_refl _ | (simp; done) | (simp; omega) | omega) _ | assumption))).mono ?_; rintro e wn ⟨b, F, rfl, hg, hb0, hbn⟩; have HG := Lib.hid hg; have HBN := Lib.hid hbn; clear hg hbn) | (go_at_call 93; refine (sorted_all _ b _ _ F _ _ HG.out HKL.out).mono ?_; rintro e w2 ⟨u, rfl, ho, hb2⟩; have HO := Lib.hid ho; have HB2 := Lib.hid hb2; clear ho hb2))
  go_ret
  have hs1 := HBN.out.size
  simp only [World.size_alloc] at hs1
  exact ⟨u, rfl, by rw [HR.out]; exact own_base HO.out (by omega), Below.trans (Below.trans (show Below w.heap.size w _ from (by repeat (first | exact Below.refl _ _ | refine Below.drew ?_ | refine Below.alloc ?_ (by first | exact Nat.le_refl _ | (simp; done) | (simp; omega) | omega) _ | refine Below.more ?_ (by first | exact Nat.le_refl _ | (simp; done) | (simp; omega) | omega) _ _ | refine Below.setCell ?_ (by first | exact Nat.le_refl _ | (simp; done) | (simp; omega) | omega) _ | assumption))) (HBN.out.mono (by simp))) (HB2.out.mono (by omega))⟩
theorem PairsIn.nilv {w : World} {lo hi : Nat} : PairsIn w lo hi (.slice none 0 0) [] (fun _ => none) :=
  ⟨World.ownsRow_nil _ _ _ _, fun b e => by simp [Value.ownBlock] at e, fun i hi => absurd hi (Nat.not_lt_zero _)⟩
theorem PairsIn.lower {w : World} {lo lo' hi : Nat} {v : Value} {L : List (Int × Int)} {A : Nat → Option Addr} (h : PairsIn w lo hi v L A) (hl : lo' ≤ lo) : PairsIn w lo' hi v L A :=
  ⟨own_base h.own hl, h.top, fun i hi => by obtain ⟨g, a, b, c, d⟩ := h.pair i hi; exact ⟨g, a, Nat.le_trans hl b, c, d⟩⟩
/-- Rows of pairs of one's own come back, no two one and the same. -/
def GivesPairs (w : World) (L : List (Int × Int)) (e : Ending) (w' : World) : Prop :=
  ∃ v A, e = .returned v ∧ PairsIn w' w.heap.size w'.heap.size v L A ∧ (∀ i j, i < j → j < L.length → A i ≠ A j) ∧ Below w.heap.size w w'
set_option maxRecDepth 100000 in
set_option maxHeartbeats 1000000 in
theorem pairs_c (u : Value) (L : List (Int × Int)) (base : Nat) (w : World) (ho : w.ownsRow base 65 2 u L.length (edgeVals L)) (hl : L.length ≤ 1000) :
    Calls Try.prog 77 #[u] w (GivesPairs w L) := by
  have HX := Lib.hid (show Sl w (match u with | .slice a _ _ => a | _ => none) 2 L.length (edgeAt L) from by
    obtain ⟨a, cap, rfl, h⟩ := ow_of_ownsRow ho (flat_get (s := 2) (n := L.length) (C := edgeAt L) (fun _ _ => rfl))
    exact h.sl)
  obtain ⟨a, cap, rfl⟩ := own_slice ho
  dsimp only at HX
  clear ho
  have HTK := Lib.hid (show ∀ k, k < L.length → L.take (k + 1) = L.take k ++ [L.getD k (0, 0)] from fun k hk => by
    rw [List.take_add_one, List.getElem?_eq_getElem hk, List.getD_eq_getElem?_getD, List.getElem?_eq_getElem hk]; rfl)
  have HTL := Lib.hid (show ∀ k, k ≤ L.length → (L.take k).length = k from fun k hk => by rw [List.length_take]; omega)
  have HTA := Lib.hid (show L.take L.length = L from List.take_length)
  generalize hn : L.length = n at *
  have HN := Lib.hid hn
  clear hn
  go_enter Try.func77, Try.ntmps77
  go_wp2
  go_loopw [3, 9] (fun out i wr => ∃ (k : Nat) (A : Nat → Option Addr), k ≤ n ∧ i = .int .i64 k ∧ Below w.heap.size w wr ∧ PairsIn wr w.heap.size wr.heap.size out (L.take k) A ∧ Hid (∀ i j, i < j → j < k → A i ≠ A j)) (fun _ i _ => n - (intOf i).toNat)
  case atStart => exact ⟨0, fun _ => none, Nat.zero_le _, rfl, (by repeat (first | exact Below.refl _ _ | refine Below.drew ?_ | refine Below.alloc ?_ (by first | exact Nat.le_refl _ | (simp; done) | (simp; omega) | omega) _ | refine Below.more ?_ (by first | exact Nat.le_refl _ | (simp; done) | (simp; omega) | omega) _ _ | refine Below.setCell ?_ (by first | exact Nat.le_refl _ | (simp; done) | (simp; omega) | omega) _ | assumption)), PairsIn.nil (Nat.le_refl _) (by simp) (heap_at_new rfl), Lib.hid (fun i j _ h => absurd h (Nat.not_lt_zero _))⟩
  case round =>
    obtain ⟨k, A, hk, rfl, hbel, hpr, HDI⟩ := hrel
    have HBEL := Lib.hid hbel
    have HPR := Lib.hid hpr
    have hbs := hbel.size
    clear hbel hpr
    by_cases hlt : k < n
    · have hk1 : (k : Int) < (n : Int) := by omega
      obtain ⟨b, o, rfl, hb, hc⟩ := HX.out.below HBEL.out (by omega)
      have c0 : wr.cell? ⟨b, o + k * 2, none⟩ = some (.int .i64 (L.getD k (0, 0)).1) := hc k hlt 0 (by omega)
      have c1 : wr.cell? ⟨b, o + k * 2 + 1, none⟩ = some (.int .i64 (L.getD k (0, 0)).2) := hc k hlt 1 (by omega)
      clear hc
      have HST := Lib.hid (HTK.out k hlt)
      have hlen := HTL.out k hk
      generalize L.getD k (0, 0) = p at *
      obtain ⟨x, y⟩ := p
      dsimp only at c0 c1
      have HXS := Lib.hid (rfl : L.take k = L.take k)
      generalize hxs : L.take k = xs at *
      clear hxs HXS
      have hlq : xs.length ≤ 1048576 := by omega
      have HLE := Lib.hid hlen
      clear hlen
      go_wp2_with (at_builtin; go_loud (refine wpList_append_pairIn _ rfl _ _ rfl w.heap.size _ xs A rfl ((HPR.out.below (by repeat (first | exact Below.refl _ _ | refine Below.drew ?_ | refine Below.alloc ?_ (by first | exact Nat.le_refl _ | (simp; done) | (simp; omega) | omega) _ | refine Below.more ?_ (by first | exact Nat.le_refl _ | (simp; done) | (simp; omega) | omega) _ _ | refine Below.setCell ?_ (by first | exact Nat.le_refl _ | (simp; done) | (simp; omega) | omega) _ | assumption))).mono (by simp; omega)) _ 1 rfl (wr.heap.size + 1) ?b2 (x, y) ?b3 hlq ?b4 ?_))
      case b2 => simp [go_sem]
      case b3 => exact ⟨_, rfl, by omega, by first | omega | (simp; done) | (simp; omega), (heap_alloc_old _ _ (by simp)).trans (heap_at_new (by simp))⟩
      case b4 => simp; omega
      intro v' w' hp' hg hloc hrow
      have HP' := Lib.hid hp'
      have hlt2 := fun b hb => (HPR.out.lt b hb).1
      have HB' := Lib.hid (Below.grown (Below.trans HBEL.out (show Below w.heap.size wr _ from (by repeat (first | exact Below.refl _ _ | refine Below.drew ?_ | refine Below.alloc ?_ (by first | exact Nat.le_refl _ | (simp; done) | (simp; omega) | omega) _ | refine Below.more ?_ (by first | exact Nat.le_refl _ | (simp; done) | (simp; omega) | omega) _ _ | refine Below.setCell ?_ (by first | exact Nat.le_refl _ | (simp; done) | (simp; omega) | omega) _ | assumption)))) hg (by simp; omega) hlt2)
      clear hp' hg hloc hrow hlt2
      go_wp2
      refine ⟨⟨k + 1, upd A xs.length (some ⟨wr.heap.size + 1, 0, none⟩), by omega, rfl, HB'.out, ?_, Lib.hid fun i j hij hj => ?_⟩, by simp only [intOf]; omega⟩
      · rw [HST.out]
        exact HP'.out
      · by_cases e : j = k
        · subst e
          obtain ⟨u, hu, _, hu2, _⟩ := HPR.out.pair i (by rw [HLE.out]; exact hij)
          rw [HLE.out, upd_self, upd_lt hij, hu]
          intro h
          simp only [Option.some.injEq, Addr.mk.injEq, and_true] at h
          omega
        · rw [HLE.out, upd_lt (by omega), upd_lt (by omega)]
          exact HDI.out i j hij (by omega)
    · have hk1 : ¬ (k : Int) < (n : Int) := by omega
      obtain rfl : k = n := by omega
      rw [HTA.out] at HPR
      go_wp2
      go_ret
      first
        | exact ⟨_, A, rfl, HPR.out, HDI.out, HBEL.out⟩
        | exact ⟨_, A, rfl, HPR.out, by rw [HN.out]; exact HDI.out, HBEL.out⟩
set_option maxRecDepth 100000 in
set_option maxHeartbeats 1000000 in
theorem impl_edgesD_c (v : Value) (p : MeshD) (w : World) (hr : MeshR w v p) (hs : MeshSz 1048576 p) :
    Calls Try.prog 42 #[v] w (GivesPairs w (edgesD p)) := by
  have HM := Lib.hid hr
  have HS := Lib.hid hs
  obtain ⟨a, c, a', c', rfl, _, _⟩ := hr
  clear hs
  cases hok : meshOkB p
  · have HE := Lib.hid (show edgesD p = [] by simp [edgesD, hok])
    have HOK := Lib.hid hok
    clear hok
    go_enter Try.func42, Try.ntmps42
    go_wp2_with (go_at_call 17; refine (impl_IsValidMesh_c _ p _ (HM.out.below (by repeat (first | exact Below.refl _ _ | refine Below.drew ?_ | refine Below.alloc ?_ (by first | exact Nat.le_refl _ | (simp; done) | (simp; omega) | omega) _ | refine Below.more ?_ (by first | exact Nat.le_refl _ | (simp; done) | (simp; omega) | omega) _ _ | refine Below.setCell ?_ (by first | exact Nat.le_refl _ | (simp; done) | (simp; omega) | omega) _ | assumption))) HS.out).mono ?_; rw [HOK.out]; rintro e wn ⟨rfl, hbn⟩; obtain ⟨X, nX, rfl⟩ := Below.ext hbn; clear hbn)
    go_ret
    rw [HE.out]
    exact ⟨_, _, rfl, PairsIn.nilv, fun i j _ h => absurd h (Nat.not_lt_zero _), (by repeat (first | exact Below.refl _ _ | refine Below.drew ?_ | refine Below.alloc ?_ (by first | exact Nat.le_refl _ | (simp; done) | (simp; omega) | omega) _ | refine Below.more ?_ (by first | exact Nat.le_refl _ | (simp; done) | (simp; omega) | omega) _ _ | refine Below.setCell ?_ (by first | exact Nat.le_refl _ | (simp; done) | (simp; omega) | omega) _ | assumption))⟩
  · have HE := Lib.hid (show edgesD p = edgesL p.faces p.nF by simp [edgesD, hok])
    have HOK := Lib.hid hok
    have HOKP := Lib.hid (meshOkB_true.1 hok)
    have HLN := Lib.hid (show (edgesL p.faces p.nF).length ≤ 1000 from by rw [← HE.out]; exact Nat.le_trans (edgesD_le p) (by omega))
    clear hok
    rw [HE.out]
    go_enter Try.func42, Try.ntmps42
    go_wp2_with (first | (go_at_call 17; refine (impl_IsValidMesh_c _ p _ (HM.out.below (by repeat (first | exact Below.refl _ _ | refine Below.drew ?_ | refine Below.alloc ?_ (by first | exact Nat.le_refl _ | (simp; done) | (simp; omega) | omega) _ | refine Below.more ?_ (by first | exact Nat.le_refl _ | (simp; done) | (simp; omega) | omega) _ _ | refine Below.setCell ?_ (by first | exact Nat.le_refl _ | (simp; done) | (simp; omega) | omega) _ | assumption))) HS.out).mono ?_; rw [HOK.out]; rintro e wn ⟨rfl, hbn⟩; obtain ⟨X, nX, rfl⟩ := Below.ext hbn; clear hbn) | (go_at_call 78; refine (impl_all_c _ p _ (HM.out.below (by repeat (first | exact Below.refl _ _ | refine Below.drew ?_ | refine Below.alloc ?_ (by first | exact Nat.le_refl _ | (simp; done) | (simp; omega) | omega) _ | refine Below.more ?_ (by first | exact Nat.le_refl _ | (simp; done) | (simp; omega) | omega) _ _ | refine Below.setCell ?_ (by first | exact Nat.le_refl _ | (simp; done) | (simp; omega) | omega) _ | assumption))) HS.out HOKP.out).mono ?_; rintro e wn ⟨u, rfl, ho, hbn⟩; have HO := Lib.hid ho; have HBN := Lib.hid hbn; clear ho hbn) | (go_at_call 77; refine (pairs_c u _ _ _ HO.out HLN.out).mono ?_; rintro e w2 ⟨u2, A2, rfl, hp2, hd2, hb2⟩; have HP2 := Lib.hid hp2; have HD2 := Lib.hid hd2; have HB2 := Lib.hid hb2; clear hp2 hd2 hb2))
    go_ret
    have hs1 := HBN.out.size
    simp at hs1
    exact ⟨u2, A2, rfl, HP2.out.lower (by omega), HD2.out, Below.trans (Below.trans (show Below w.heap.size w _ from (by repeat (first | exact Below.refl _ _ | refine Below.drew ?_ | refine Below.alloc ?_ (by first | exact Nat.le_refl _ | (simp; done) | (simp; omega) | omega) _ | refine Below.more ?_ (by first | exact Nat.le_refl _ | (simp; done) | (simp; omega) | omega) _ _ | refine Below.setCell ?_ (by first | exact Nat.le_refl _ | (simp; done) | (simp; omega) | omega) _ | assumption))) (HBN.out.mono (by simp; try omega))) (HB2.out.mono (by omega))⟩
set_option maxRecDepth 100000 in
set_option maxHeartbeats 1000000 in
theorem impl_bndD_c (v : Value) (p : MeshD) (w : World) (hr : MeshR w v p) (hs : MeshSz 1048576 p) :
    Calls Try.prog 47 #[v] w (GivesPairs w (bndD p)) := by
  have HM := Lib.hid hr
  have HS := Lib.hid hs
  obtain ⟨a, c, a', c', rfl, _, _⟩ := hr
  clear hs
  cases hok : meshOkB p
  · have HE := Lib.hid (show bndD p = [] by simp [bndD, hok])
    have HOK := Lib.hid hok
    clear hok
    go_enter Try.func47, Try.ntmps47
    go_wp2_with (go_at_call 17; refine (impl_IsValidMesh_c _ p _ (HM.out.below (by repeat (first | exact Below.refl _ _ | refine Below.drew ?_ | refine Below.alloc ?_ (by first | exact Nat.le_refl _ | (simp; done) | (simp; omega) | omega) _ | refine Below.more ?_ (by first | exact Nat.le_refl _ | (simp; done) | (simp; omega) | omega) _ _ | refine Below.setCell ?_ (by first | exact Nat.le_refl _ | (simp; done) | (simp; omega) | omega) _ | assumption))) HS.out).mono ?_; rw [HOK.out]; rintro e wn ⟨rfl, hbn⟩; obtain ⟨X, nX, rfl⟩ := Below.ext hbn; clear hbn)
    go_ret
    rw [HE.out]
    exact ⟨_, _, rfl, PairsIn.nilv, fun i j _ h => absurd h (Nat.not_lt_zero _), (by repeat (first | exact Below.refl _ _ | refine Below.drew ?_ | refine Below.alloc ?_ (by first | exact Nat.le_refl _ | (simp; done) | (simp; omega) | omega) _ | refine Below.more ?_ (by first | exact Nat.le_refl _ | (simp; done) | (simp; omega) | omega) _ _ | refine Below.setCell ?_ (by first | exact Nat.le_refl _ | (simp; done) | (simp; omega) | omega) _ | assumption))⟩
  · have HE := Lib.hid (show bndD p = bndL p.faces p.nF by simp [bndD, hok])
    have HOK := Lib.hid hok
    have HOKP := Lib.hid (meshOkB_true.1 hok)
    have HLN := Lib.hid (show (bndL p.faces p.nF).length ≤ 1000 from by rw [← HE.out]; exact Nat.le_trans (bndD_le p) (by omega))
    clear hok
    rw [HE.out]
    go_enter Try.func47, Try.ntmps47
    go_wp2_with (first | (go_at_call 17; refine (impl_IsValidMesh_c _ p _ (HM.out.below (by repeat (first | exact Below.refl _ _ | refine Below.drew ?_ | refine Below.alloc ?_ (by first | exact Nat.le_refl _ | (simp; done) | (simp; omega) | omega) _ | refine Below.more ?_ (by first | exact Nat.le_refl _ | (simp; done) | (simp; omega) | omega) _ _ | refine Below.setCell ?_ (by first | exact Nat.le_refl _ | (simp; done) | (simp; omega) | omega) _ | assumption))) HS.out).mono ?_; rw [HOK.out]; rintro e wn ⟨rfl, hbn⟩; obtain ⟨X, nX, rfl⟩ := Below.ext hbn; clear hbn) | (go_at_call 73; refine (impl_bnd_c _ p _ (HM.out.below (by repeat (first | exact Below.refl _ _ | refine Below.drew ?_ | refine Below.alloc ?_ (by first | exact Nat.le_refl _ | (simp; done) | (simp; omega) | omega) _ | refine Below.more ?_ (by first | exact Nat.le_refl _ | (simp; done) | (simp; omega) | omega) _ _ | refine Below.setCell ?_ (by first | exact Nat.le_refl _ | (simp; done) | (simp; omega) | omega) _ | assumption))) HS.out HOKP.out).mono ?_; rintro e wn ⟨u, rfl, ho, hbn⟩; have HO := Lib.hid ho; have HBN := Lib.hid hbn; clear ho hbn) | (go_at_call 77; refine (pairs_c u _ _ _ HO.out HLN.out).mono ?_; rintro e w2 ⟨u2, A2, rfl, hp2, hd2, hb2⟩; have HP2 := Lib.hid hp2; have HD2 := Lib.hid hd2; have HB2 := Lib.hid hb2; clear hp2 hd2 hb2))
    go_ret
    have hs1 := HBN.out.size
    simp at hs1
    exact ⟨u2, A2, rfl, HP2.out.lower (by omega), HD2.out, Below.trans (Below.trans (show Below w.heap.size w _ from (by repeat (first | exact Below.refl _ _ | refine Below.drew ?_ | refine Below.alloc ?_ (by first | exact Nat.le_refl _ | (simp; done) | (simp; omega) | omega) _ | refine Below.more ?_ (by first | exact Nat.le_refl _ | (simp; done) | (simp; omega) | omega) _ _ | refine Below.setCell ?_ (by first | exact Nat.le_refl _ | (simp; done) | (simp; omega) | omega) _ | assumption))) (HBN.out.mono (by simp; try omega))) (HB2.out.mono (by omega))⟩
set_option maxRecDepth 100000 in
set_option maxHeartbeats 1000000 in
theorem impl_IsClosed_c (v : Value) (p : MeshD) (w : World) (hr : MeshR w v p) (hs : MeshSz 1048576 p) :
    Calls Try.prog 40 #[v] w fun e w' => e = .returned (.bool (closedD p)) ∧ Below w.heap.size w w' := by
  have HM := Lib.hid hr
  have HS := Lib.hid hs
  obtain ⟨a, c, a', c', rfl, _, _⟩ := hr
  clear hs
  cases hok : meshOkB p
  · have HE := Lib.hid (show closedD p = false by simp [closedD, hok])
    have HOK := Lib.hid hok
    clear hok
    rw [HE.out]
    go_enter Try.func40, Try.ntmps40
    go_wp2_with (go_at_call 17; refine (impl_IsValidMesh_c _ p _ (HM.out.below (by repeat (first | exact Below.refl _ _ | refine Below.drew ?_ | refine Below.alloc ?_ (by first | exact Nat.le_refl _ | (simp; done) | (simp; omega) | omega) _ | refine Below.more ?_ (by first | exact Nat.le_refl _ | (simp; done) | (simp; omega) | omega) _ _ | refine Below.setCell ?_ (by first | exact Nat.le_refl _ | (simp; done) | (simp; omega) | omega) _ | assumption))) HS.out).mono ?_; rw [HOK.out]; rintro e wn ⟨rfl, hbn⟩; obtain ⟨X, nX, rfl⟩ := Below.ext hbn; clear hbn)
    go_ret
    exact ⟨rfl, (by repeat (first | exact Below.refl _ _ | refine Below.drew ?_ | refine Below.alloc ?_ (by first | exact Nat.le_refl _ | (simp; done) | (simp; omega) | omega) _ | refine Below.more ?_ (by first | exact Nat.le_refl _ | (simp; done) | (simp; omega) | omega) _ _ | refine Below.setCell ?_ (by first | exact Nat.le_refl _ | (simp; done) | (simp; omega) | omega) _ | assumption))⟩
  · have HOK := Lib.hid hok
    by_cases h0 : 0 < p.nF
    · have HE := Lib.hid (show closedD p = decide ((bndL p.faces p.nF).length = 0) by simp [closedD, bndD, hok, h0])
      have h1 : (0 : Int) < (p.nF : Int) := by omega
      have HOKP := Lib.hid (meshOkB_true.1 hok)
      clear hok h0
      go_enter Try.func40, Try.ntmps40
      go_wp2_with (first | (go_at_call 17; refine (impl_IsValidMesh_c _ p _ (HM.out.below (by repeat (first | exact Below.refl _ _ | refine Below.drew ?_ | refine Below.alloc ?_ (by first | exact Nat.le_refl _ | (simp; done) | (simp; omega) | omega) _ | refine Below.more ?_ (by first | exact Nat.le_refl _ | (simp; done) | (simp; omega) | omega) _ _ | refine Below.setCell ?_ (by first | exact Nat.le_refl _ | (simp; done) | (simp; omega) | omega) _ | assumption))) HS.out).mono ?_; rw [HOK.out]; rintro e wn ⟨rfl, hbn⟩; obtain ⟨X, nX, rfl⟩ := Below.ext hbn; clear hbn) | (go_at_call 73; refine (impl_bnd_c _ p _ (HM.out.below (by repeat (first | exact Below.refl _ _ | refine Below.drew ?_ | refine Below.alloc ?_ (by first | exact Nat.le_refl _ | (simp; done) | (simp; omega) | omega) _ | refine Below.more ?_ (by first | exact Nat.le_refl _ | (simp; done) | (simp; omega) | omega) _ _ | refine Below.setCell ?_ (by first | exact Nat.le_refl _ | (simp; done) | (simp; omega) | omega) _ | assumption))) HS.out HOKP.out).mono ?_; rintro e wn ⟨u, rfl, ho, hbn⟩; have HBN := Lib.hid hbn; obtain ⟨ua, uc, rfl⟩ := own_slice ho; clear ho hbn))
      all_goals (go_ret; refine ⟨ret_bool ?_, Below.trans (show Below w.heap.size w _ from (by repeat (first | exact Below.refl _ _ | refine Below.drew ?_ | refine Below.alloc ?_ (by first | exact Nat.le_refl _ | (simp; done) | (simp; omega) | omega) _ | refine Below.more ?_ (by first | exact Nat.le_refl _ | (simp; done) | (simp; omega) | omega) _ _ | refine Below.setCell ?_ (by first | exact Nat.le_refl _ | (simp; done) | (simp; omega) | omega) _ | assumption))) (HBN.out.mono (by simp; try omega))⟩; rw [HE.out]; first | (simp; done) | (simp; omega) | (rw [Bool.eq_iff_iff]; first | (simp; done) | (simp; omega)))
    · have HE := Lib.hid (show closedD p = false by simp [closedD, h0])
      have h1 : ¬ (0 : Int) < (p.nF : Int) := by omega
      clear hok h0
      rw [HE.out]
      go_enter Try.func40, Try.ntmps40
      go_wp2_with (go_at_call 17; refine (impl_IsValidMesh_c _ p _ (HM.out.below (by repeat (first | exact Below.refl _ _ | refine Below.drew ?_ | refine Below.alloc ?_ (by first | exact Nat.le_refl _ | (simp; done) | (simp; omega) | omega) _ | refine Below.more ?_ (by first | exact Nat.le_refl _ | (simp; done) | (simp; omega) | omega) _ _ | refine Below.setCell ?_ (by first | exact Nat.le_refl _ | (simp; done) | (simp; omega) | omega) _ | assumption))) HS.out).mono ?_; rw [HOK.out]; rintro e wn ⟨rfl, hbn⟩; obtain ⟨X, nX, rfl⟩ := Below.ext hbn; clear hbn)
      all_goals (go_ret; first | exact ⟨rfl, (by repeat (first | exact Below.refl _ _ | refine Below.drew ?_ | refine Below.alloc ?_ (by first | exact Nat.le_refl _ | (simp; done) | (simp; omega) | omega) _ | refine Below.more ?_ (by first | exact Nat.le_refl _ | (simp; done) | (simp; omega) | omega) _ _ | refine Below.setCell ?_ (by first | exact Nat.le_refl _ | (simp; done) | (simp; omega) | omega) _ | assumption))⟩ | (refine ⟨ret_bool ?_, (by repeat (first | exact Below.refl _ _ | refine Below.drew ?_ | refine Below.alloc ?_ (by first | exact Nat.le_refl _ | (simp; done) | (simp; omega) | omega) _ | refine Below.more ?_ (by first | exact Nat.le_refl _ | (simp; done) | (simp; omega) | omega) _ _ | refine Below.setCell ?_ (by first | exact Nat.le_refl _ | (simp; done) | (simp; omega) | omega) _ | assumption))⟩; simp; omega))
end Go.Proofs.Ytbmhehjllchpoaa
