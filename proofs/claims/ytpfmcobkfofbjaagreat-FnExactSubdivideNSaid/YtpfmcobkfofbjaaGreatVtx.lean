/- Vtx, with Neighbors, HasInt, VertexFaces, VertexFacesS ahead of it. -/
import Derived.Test.YtpfmcobkfofbjaaGreatEdgesS
import Derived.Test.YtpfmcobkfofbjaaGreatShelf
import Derived.Sort.OwnSortedInts
import Derived.Test.YtpfmcobkfofbjaaGreatSInt
import Derived.Test.YtpfmcobkfofbjaaGreatValidMesh
import Derived.Test.YtpfmcobkfofbjaaGreatAppInt
import Derived.Test.YtpfmcobkfofbjaaGreatValidMeshS
import Derived.Test.YtpfmcobkfofbjaaGreatEdgePoint
namespace Go.Proofs.YtpfmcobkfofbjaaGreat
open Go Go.RowKit Go.Maps Go.Sort
def sortI (l : List Int) : List Int := l.mergeSort fun x y => decide (x ≤ y)
theorem mem_sortI {l : List Int} {x : Int} : x ∈ sortI l ↔ x ∈ l := List.mem_mergeSort
theorem len_sortI (l : List Int) : (sortI l).length = l.length := List.length_mergeSort _
theorem sorted_sortI {l : List Int} (h : l.Nodup) : (sortI l).Pairwise fun x y => x < y := by
  have h1 : (sortI l).Pairwise fun x y => decide (x ≤ y) = true := List.pairwise_mergeSort (fun a b c hab hbc => by
      simp only [decide_eq_true_eq] at *; omega) (fun a b => by
      simp only [Bool.or_eq_true, decide_eq_true_eq]; omega) l
  have h2 : (sortI l).Nodup := (List.mergeSort_perm l _).nodup_iff.2 h
  refine (h1.and h2).imp fun {a b} ⟨h3, h4⟩ => ?_
  simp only [decide_eq_true_eq] at h3
  omega
/-- The other end of an edge at v. -/
def endsE (v : Int) (e : Int × Int) : List Int := (if e.1 = v then [e.2] else []) ++ (if e.2 = v then [e.1] else [])
def nbOf (L : List (Int × Int)) (v : Int) : List Int := L.flatMap (endsE v)
theorem nbOf_snoc (L : List (Int × Int)) (e : Int × Int) (v : Int) : nbOf (L ++ [e]) v = nbOf L v ++ endsE v e := by simp [nbOf]
theorem endsE_len (v : Int) (e : Int × Int) : (endsE v e).length ≤ 2 := by unfold endsE; split <;> split <;> simp
theorem nbOf_len (v : Int) : ∀ L : List (Int × Int), (nbOf L v).length ≤ 2 * L.length
  | [] => by simp [nbOf]
  | e :: L => by
    have h1 := nbOf_len v L
    have h2 := endsE_len v e
    simp only [nbOf, List.flatMap_cons, List.length_append, List.length_cons] at *
    omega
/-- The edges of a mesh: the smaller end ahead. -/
def Ups (L : List (Int × Int)) : Prop := ∀ e ∈ L, e.1 < e.2
theorem mem_ends {v y : Int} {e : Int × Int} (h : e.1 < e.2) : y ∈ endsE v e ↔ und (v, y) = e ∧ y ≠ v := by
  obtain ⟨a, b⟩ := e
  dsimp only at h
  unfold endsE und
  by_cases h1 : a = v <;> by_cases h2 : b = v <;> simp [h1, h2, Prod.ext_iff] <;> omega
theorem nodup_ends {v : Int} {e : Int × Int} (h : e.1 < e.2) : (endsE v e).Nodup := by
  obtain ⟨a, b⟩ := e
  dsimp only at h
  unfold endsE
  by_cases h1 : a = v <;> by_cases h2 : b = v <;> simp [h1, h2] <;> omega
theorem mem_nb {v y : Int} : ∀ {L : List (Int × Int)}, Ups L → (y ∈ nbOf L v ↔ und (v, y) ∈ L ∧ y ≠ v)
  | [], _ => by simp [nbOf]
  | e :: L, h => by
    have h1 := mem_nb (v := v) (y := y) (L := L) (fun x hx => h x (by simp [hx]))
    have h2 := mem_ends (v := v) (y := y) (h e (by simp))
    simp only [nbOf, List.flatMap_cons, List.mem_append, List.mem_cons] at *
    rw [h1, h2]
    constructor
    · rintro (⟨h3, h4⟩ | ⟨h3, h4⟩)
      · exact ⟨.inl h3, h4⟩
      · exact ⟨.inr h3, h4⟩
    · rintro ⟨h3 | h3, h4⟩
      · exact .inl ⟨h3, h4⟩
      · exact .inr ⟨h3, h4⟩
theorem nodup_nb {v : Int} : ∀ {L : List (Int × Int)}, L.Nodup → Ups L → (nbOf L v).Nodup
  | [], _, _ => by simp [nbOf]
  | e :: L, hn, h => by
    obtain ⟨h1, h2⟩ := List.nodup_cons.1 hn
    have hu : Ups L := fun x hx => h x (by simp [hx])
    have h3 := nodup_nb (v := v) h2 hu
    show (endsE v e ++ nbOf L v).Nodup
    refine List.nodup_append.2 ⟨nodup_ends (h e (by simp)), h3, fun x hx y hy e2 => ?_⟩
    subst e2
    have h4 := (mem_ends (h e (by simp))).1 hx
    have h5 := (mem_nb hu).1 hy
    rw [h4.1] at h5
    exact h1 h5.1
/-- As the reference lists them. -/
def putEnds (v : Int) (l : List (Int × Int)) (e : Int × Int) : List (Int × Int) :=
  let l1 := if e.1 = v then putE l (e.2, 0) else l
  if e.2 = v then putE l1 (e.1, 0) else l1
def nbPut (L : List (Int × Int)) (v : Int) : List (Int × Int) := L.foldl (putEnds v) []
theorem nbPut_snoc (L : List (Int × Int)) (e : Int × Int) (v : Int) : nbPut (L ++ [e]) v = putEnds v (nbPut L v) e := by simp [nbPut]
theorem putEnds_len (v : Int) (l : List (Int × Int)) (e : Int × Int) : (putEnds v l e).length ≤ l.length + 2 := by
  unfold putEnds
  have h1 := putE_len l (e.2, 0)
  have h2 := putE_len l (e.1, 0)
  have h3 := putE_len (putE l (e.2, 0)) (e.1, 0)
  dsimp only
  split <;> split <;> omega
theorem putEnds_ok {v : Int} {l : List (Int × Int)} {e : Int × Int} (h : SortedE l) : SortedE (putEnds v l e) ∧ ∀ p, p ∈ putEnds v l e ↔ (p.2 = 0 ∧ p.1 ∈ endsE v e) ∨ p ∈ l := by
  obtain ⟨a, b⟩ := e
  unfold putEnds endsE
  dsimp only
  refine ⟨?_, fun p => ?_⟩
  · split <;> split
    · exact sorted_putE (sorted_putE h)
    · exact sorted_putE h
    · exact sorted_putE h
    · exact h
  · obtain ⟨x, y⟩ := p
    by_cases h1 : a = v <;> by_cases h2 : b = v <;> simp [h1, h2, mem_putE] <;> grind
theorem revInd {α : Type} {P : List α → Prop} (h0 : P []) (h1 : ∀ l x, P l → P (l ++ [x])) (l : List α) : P l := by
  rw [← List.reverse_reverse l]
  induction l.reverse with
  | nil => exact h0
  | cons x t ih => rw [List.reverse_cons]; exact h1 _ _ ih
theorem nbPut_ok (v : Int) (L : List (Int × Int)) : SortedE (nbPut L v) ∧ ∀ p, p ∈ nbPut L v ↔ p.2 = 0 ∧ p.1 ∈ nbOf L v := by
  refine revInd (P := fun L => SortedE (nbPut L v) ∧ ∀ p, p ∈ nbPut L v ↔ p.2 = 0 ∧ p.1 ∈ nbOf L v) ?_ ?_ L
  · exact ⟨List.Pairwise.nil, fun p => by simp [nbPut, nbOf]⟩
  · intro l e ⟨h1, h2⟩
    obtain ⟨h3, h4⟩ := putEnds_ok (v := v) (e := e) h1
    rw [nbPut_snoc, nbOf_snoc]
    refine ⟨h3, fun p => ?_⟩
    rw [h4, h2, List.mem_append]
    constructor
    · rintro (⟨h5, h6⟩ | ⟨h5, h6⟩)
      · exact ⟨h5, .inr h6⟩
      · exact ⟨h5, .inl h6⟩
    · rintro ⟨h5, h6 | h6⟩
      · exact .inr ⟨h5, h6⟩
      · exact .inl ⟨h5, h6⟩
theorem nbPut_len (v : Int) (L : List (Int × Int)) : (nbPut L v).length ≤ 2 * L.length := by
  refine revInd (P := fun L => (nbPut L v).length ≤ 2 * L.length) (by simp [nbPut]) (fun l e h => ?_) L
  rw [nbPut_snoc, List.length_append, List.length_singleton]
  have := putEnds_len v (nbPut l v) e
  omega
theorem nb_eq {L : List (Int × Int)} {v : Int} (hn : L.Nodup) (hu : Ups L) : (nbPut L v).map (·.1) = sortI (nbOf L v) := by
  have h1 := nodup_nb (v := v) hn hu
  have h2 := sorted_sortI h1
  have h3 : SortedE ((sortI (nbOf L v)).map fun x => (x, (0 : Int))) := by
    refine List.Pairwise.map _ (fun a b h => ?_) h2
    rw [ltE_iff]; exact .inl h
  obtain ⟨h4, h5⟩ := nbPut_ok v L
  have h6 : nbPut L v = (sortI (nbOf L v)).map fun x => (x, (0 : Int)) := sortedE_eq h4 h3 fun p => by
    rw [h5, List.mem_map]
    constructor
    · rintro ⟨h7, h8⟩
      exact ⟨p.1, mem_sortI.2 h8, by rw [← h7]⟩
    · rintro ⟨x, h7, rfl⟩
      exact ⟨rfl, mem_sortI.1 h7⟩
  rw [h6, List.map_map]
  simp [Function.comp_def]
theorem ups_edges {p : MeshD} (hok : meshOk p) : Ups (edgesL p.faces p.nF) := fun e he => by
  obtain ⟨i, j, hi, hj, rfl⟩ := mem_edgesL he
  obtain ⟨h4, _, hd⟩ := hok.2.2.2.1 i hi
  have hne : (stepAt (faceAt p.faces i) j).1 ≠ (stepAt (faceAt p.faces i) j).2 := by
    simp only [stepAt]
    have hm : (j + 1) % (faceAt p.faces i).length < (faceAt p.faces i).length := Nat.mod_lt _ (by omega)
    by_cases hlt : j < (j + 1) % (faceAt p.faces i).length
    · exact hd _ _ hlt hm
    · refine (hd _ _ (show (j + 1) % (faceAt p.faces i).length < j from ?_) (by omega)).symm
      rw [h4] at hlt ⊢
      omega
  generalize stepAt (faceAt p.faces i) j = q at *
  obtain ⟨x, y⟩ := q
  simp only [und]
  dsimp only at hne
  omega
theorem ups_edgesD (p : MeshD) : Ups (edgesD p) ∧ (edgesD p).Nodup := by
  unfold edgesD
  split
  · have hok := meshOkB_true.1 (by assumption)
    exact ⟨ups_edges hok, sortedE_nodup (edges_ok _ _).1⟩
  · exact ⟨fun e h => (by cases h), List.nodup_nil⟩
noncomputable def nbD (p : MeshD) (v : Int) : List Int := sortI (nbOf (edgesD p) v)
theorem nbD_le (p : MeshD) (v : Int) : (nbD p v).length ≤ 1048576 := by
  unfold nbD
  rw [len_sortI]
  have := nbOf_len v (edgesD p)
  have := edgesD_le p
  omega
/-- The library's sort, on a row of integers of one's own. -/
theorem sortInts_c (base : Nat) (v : Value) (zs : List Int) (w : World) (ho : w.ownsRow base 3 1 v zs.length (zs.map (.int .i64))) (hn : zs.length ≤ 1048576) :
    Calls Tryz.prog 86 #[v] w fun e w' => e = .returned (.tuple #[]) ∧ w'.ownsRow base 3 1 v zs.length ((sortI zs).map (.int .i64)) ∧ w.grownBy w' v.ownBlock := by
  have nil : ∀ (p : Option Addr) (cap : Nat), v = .slice p 0 cap → zs.length = 0 → Calls Tryz.prog 86 #[v] w fun e w' => e = .returned (.tuple #[]) ∧ w'.ownsRow base 3 1 v zs.length ((sortI zs).map (.int .i64)) ∧ w.grownBy w' v.ownBlock := by
    intro p cap hv h0
    have hL : sortI zs = zs := by obtain rfl := List.length_eq_zero_iff.1 h0; exact List.mergeSort_nil
    subst hv
    refine (Tryz.slices_Sort_int_none p cap w).mono ?_
    rintro e w' ⟨rfl, rfl⟩
    exact ⟨rfl, by rw [hL]; exact ho, ⟨rfl, rfl, rfl, Nat.le_refl _, fun _ _ _ => rfl⟩⟩
  rcases ho.2 with ⟨rfl, h0⟩ | ⟨g, cap, cur, rfl, hb, hg, hnc, hcm, hcs, ht⟩
  · exact nil none 0 rfl h0
  · by_cases h0 : zs.length = 0
    · exact nil (some ⟨g, 0, none⟩) cap (by rw [h0]) h0
    have hH : Holds (Value.int .i64) w g 0 zs.toArray := holds_of_blockI hg (by rw [Nat.mul_one] at ht; exact ht)
    refine (Tryz.slices_Sort_int g 0 cap zs w hH (Array.getElem?_eq_some_iff.1 hg).1 (by omega)).mono ?_
    rintro e w' ⟨rfl, n, os, rfl⟩
    exact ⟨rfl, ownsRow_sortedI (n := n) (os := os) (ts := sortI zs) (len_sortI zs) hb hg hnc hcm hcs, grownBy_sortedI _⟩
set_option maxRecDepth 100000 in
set_option maxHeartbeats 1000000 in
theorem impl_neighbors_c (u : Value) (L : List (Int × Int)) (x : Int) (base : Nat) (w : World) (ho : w.ownsRow base 56 2 u L.length (edgeVals L)) (hl : L.length ≤ 1000) :
    Calls Tryz.prog 63 #[u, .int .i64 x] w (Gives w 1 (sortI (nbOf L x)).length (intAt (sortI (nbOf L x)))) := by
  have HX := Lib.hid (show Sl w (match u with | .slice a _ _ => a | _ => none) 2 L.length (edgeAt L) from by
    obtain ⟨a, cap, rfl, h⟩ := ow_of_ownsRow ho (flat_get (s := 2) (n := L.length) (C := edgeAt L) (fun _ _ => rfl))
    exact h.sl)
  obtain ⟨a, cap, rfl⟩ := own_slice ho
  dsimp only at HX
  clear ho
  have HTK := Lib.hid (show ∀ k, k < L.length → nbOf (L.take (k + 1)) x = nbOf (L.take k) x ++ endsE x (L.getD k (0, 0)) from fun k hk => by
    rw [List.take_add_one, List.getElem?_eq_getElem hk, List.getD_eq_getElem?_getD, List.getElem?_eq_getElem hk]; exact nbOf_snoc _ _ _)
  have HTL := Lib.hid (show ∀ k, (nbOf (L.take k) x).length ≤ 2000 from fun k => by have := nbOf_len x (L.take k); rw [List.length_take] at this; omega)
  have HTA := Lib.hid (show L.take L.length = L from List.take_length)
  generalize hn : L.length = n at *
  have HN := Lib.hid hn
  clear hn
  go_enter Tryz.func63, Tryz.ntmps63
  go_wp2
  go_loopw [5, 11] (fun out i wr => ∃ (k : Nat), k ≤ n ∧ i = .int .i64 k ∧ Below w.heap.size w wr ∧ wr.ownsRow w.heap.size 3 1 out (nbOf (L.take k) x).length ((nbOf (L.take k) x).map (.int .i64))) (fun _ i _ => n - (intOf i).toNat)
  case atStart =>
    refine ⟨0, Nat.zero_le _, rfl, (by repeat (first | exact Below.refl _ _ | refine Below.drew ?_ | refine Below.alloc ?_ (by first | exact Nat.le_refl _ | (simp; done) | (simp; omega) | omega) _ | refine Below.more ?_ (by first | exact Nat.le_refl _ | (simp; done) | (simp; omega) | omega) _ _ | refine Below.setCell ?_ (by first | exact Nat.le_refl _ | (simp; done) | (simp; omega) | omega) _ | assumption)), ?_⟩
    have hz := World.ownsRow_made (e := 3) (size := 1) (base := w.heap.size) w #[] 0 (by simp) (by decide) (by simp)
    simpa [nbOf] using hz
  case round =>
    obtain ⟨k, hk, rfl, hbel, hown⟩ := hrel
    have HBEL := Lib.hid hbel
    have HOWN := Lib.hid hown
    have hbs := hbel.size
    clear hbel hown
    by_cases hlt : k < n
    · have hk1 : (k : Int) < (n : Int) := by omega
      obtain ⟨b, o, rfl, hb, hc⟩ := HX.out.below HBEL.out (by omega)
      have c0 : wr.cell? ⟨b, o + k * 2, none⟩ = some (.int .i64 (L.getD k (0, 0)).1) := hc k hlt 0 (by omega)
      have c1 : wr.cell? ⟨b, o + k * 2 + 1, none⟩ = some (.int .i64 (L.getD k (0, 0)).2) := hc k hlt 1 (by omega)
      clear hc
      have HST := Lib.hid (HTK.out k hlt)
      have hlen := HTL.out k
      generalize L.getD k (0, 0) = p at *
      obtain ⟨e1, e2⟩ := p
      dsimp only at c0 c1
      generalize nbOf (L.take k) x = M at *
      cases b1 : (e1 == x) <;> cases b2 : (e2 == x)
      · have HE := Lib.hid (show nbOf (L.take (k + 1)) x = M from by rw [HST.out]; simp at b1 b2; simp [endsE, b1, b2])
        go_wp2
        exact ⟨⟨k + 1, by omega, by go_num, Below.trans HBEL.out (by repeat (first | exact Below.refl _ _ | refine Below.drew ?_ | refine Below.alloc ?_ (by first | exact Nat.le_refl _ | (simp; done) | (simp; omega) | omega) _ | refine Below.more ?_ (by first | exact Nat.le_refl _ | (simp; done) | (simp; omega) | omega) _ _ | refine Below.setCell ?_ (by first | exact Nat.le_refl _ | (simp; done) | (simp; omega) | omega) _ | assumption)), by rw [HE.out]; exact own_kept HOWN.out (by repeat (first | exact Below.refl _ _ | refine Below.drew ?_ | refine Below.alloc ?_ (by first | exact Nat.le_refl _ | (simp; done) | (simp; omega) | omega) _ | refine Below.more ?_ (by first | exact Nat.le_refl _ | (simp; done) | (simp; omega) | omega) _ _ | refine Below.setCell ?_ (by first | exact Nat.le_refl _ | (simp; done) | (simp; omega) | omega) _ | assumption))⟩, by simp only [intOf]; omega⟩
      · have HE := Lib.hid (show nbOf (L.take (k + 1)) x = M ++ [e1] from by rw [HST.out]; simp at b1 b2; simp [endsE, b1, b2])
        go_wp2_with (at_builtin; go_loud (refine wpList_append_int _ rfl _ _ rfl w.heap.size _ _ _ rfl (own_kept HOWN.out (by repeat (first | exact Below.refl _ _ | refine Below.drew ?_ | refine Below.alloc ?_ (by first | exact Nat.le_refl _ | (simp; done) | (simp; omega) | omega) _ | refine Below.more ?_ (by first | exact Nat.le_refl _ | (simp; done) | (simp; omega) | omega) _ _ | refine Below.setCell ?_ (by first | exact Nat.le_refl _ | (simp; done) | (simp; omega) | omega) _ | assumption))) _ 1 rfl e1 ?r1 (by omega) ?r2 ?_))
        case r1 => simp [go_sem]
        case r2 => first | omega | (simp; omega)
        intro v' w' hp' hb'
        have HP' := Lib.hid hp'
        have HB' := Lib.hid (Below.trans (show Below w.heap.size wr _ from (by repeat (first | exact Below.refl _ _ | refine Below.drew ?_ | refine Below.alloc ?_ (by first | exact Nat.le_refl _ | (simp; done) | (simp; omega) | omega) _ | refine Below.more ?_ (by first | exact Nat.le_refl _ | (simp; done) | (simp; omega) | omega) _ _ | refine Below.setCell ?_ (by first | exact Nat.le_refl _ | (simp; done) | (simp; omega) | omega) _ | assumption))) hb')
        clear hp' hb'
        go_wp2
        refine ⟨⟨k + 1, by omega, by first | rfl | go_num, Below.trans HBEL.out HB'.out, ?_⟩, by simp only [intOf]; omega⟩
        rw [HE.out, List.length_append, List.length_singleton, List.map_append]
        exact HP'.out
      · have HE := Lib.hid (show nbOf (L.take (k + 1)) x = M ++ [e2] from by rw [HST.out]; simp at b1 b2; simp [endsE, b1, b2])
        go_wp2_with (at_builtin; go_loud (refine wpList_append_intg _ rfl _ _ rfl w.heap.size _ _ _ rfl (own_kept HOWN.out (by repeat (first | exact Below.refl _ _ | refine Below.drew ?_ | refine Below.alloc ?_ (by first | exact Nat.le_refl _ | (simp; done) | (simp; omega) | omega) _ | refine Below.more ?_ (by first | exact Nat.le_refl _ | (simp; done) | (simp; omega) | omega) _ _ | refine Below.setCell ?_ (by first | exact Nat.le_refl _ | (simp; done) | (simp; omega) | omega) _ | assumption))) _ 1 rfl e2 ?s1 (by omega) ?s2 ?_))
        case s1 => simp [go_sem]
        case s2 => first | omega | (simp; omega)
        intro v' w' hp' hg' hloc'
        have HP' := Lib.hid hp'
        have hne : u5.ownBlock ≠ some wr.heap.size := fun e => by
          obtain ⟨_, c2, fz2, hc2⟩ := own_row HOWN.out _ e
          exact absurd (Array.getElem?_eq_some_iff.1 hc2).1 (Nat.lt_irrefl _)
        have t0 : w'.cell? ⟨wr.heap.size, 0, none⟩ = some (.int .i64 e1) := (World.cell?_of_block (hg'.block _ (by simp; try omega) (fun e => hne e.symm))).trans (by simp [go_sem])
        have t1 : w'.cell? ⟨wr.heap.size, 1, none⟩ = some (.int .i64 e2) := (World.cell?_of_block (hg'.block _ (by simp; try omega) (fun e => hne e.symm))).trans (by simp [go_sem])
        have HB' := Lib.hid (Below.grown (Below.trans HBEL.out (show Below w.heap.size wr _ from (by repeat (first | exact Below.refl _ _ | refine Below.drew ?_ | refine Below.alloc ?_ (by first | exact Nat.le_refl _ | (simp; done) | (simp; omega) | omega) _ | refine Below.more ?_ (by first | exact Nat.le_refl _ | (simp; done) | (simp; omega) | omega) _ _ | refine Below.setCell ?_ (by first | exact Nat.le_refl _ | (simp; done) | (simp; omega) | omega) _ | assumption)))) hg' (by first | omega | (simp; omega)) (fun b hb => (own_row HOWN.out b hb).1))
        have hws := HB'.out.size
        have hwr : wr.heap.size < w'.heap.size := World.block_lt_of_cell? _ _ t0
        clear hp' hg' hloc' hne
        go_wp2
        refine ⟨⟨k + 1, by omega, by first | rfl | go_num, HB'.out, ?_⟩, by simp only [intOf]; omega⟩
        rw [HE.out, List.length_append, List.length_singleton, List.map_append]
        exact HP'.out
      · have HE := Lib.hid (show nbOf (L.take (k + 1)) x = (M ++ [e2]) ++ [e1] from by rw [HST.out]; simp at b1 b2; simp [endsE, b1, b2])
        go_wp2_with (at_builtin; go_loud (refine wpList_append_intg _ rfl _ _ rfl w.heap.size _ _ _ rfl (own_kept HOWN.out (by repeat (first | exact Below.refl _ _ | refine Below.drew ?_ | refine Below.alloc ?_ (by first | exact Nat.le_refl _ | (simp; done) | (simp; omega) | omega) _ | refine Below.more ?_ (by first | exact Nat.le_refl _ | (simp; done) | (simp; omega) | omega) _ _ | refine Below.setCell ?_ (by first | exact Nat.le_refl _ | (simp; done) | (simp; omega) | omega) _ | assumption))) _ 1 rfl e2 ?q1 (by omega) ?q2 ?_))
        case q1 => simp [go_sem]
        case q2 => first | omega | (simp; omega)
        intro v' w' hp' hg' hloc'
        have HP' := Lib.hid hp'
        have hne : u5.ownBlock ≠ some wr.heap.size := fun e => by
          obtain ⟨_, c2, fz2, hc2⟩ := own_row HOWN.out _ e
          exact absurd (Array.getElem?_eq_some_iff.1 hc2).1 (Nat.lt_irrefl _)
        have t0 : w'.cell? ⟨wr.heap.size, 0, none⟩ = some (.int .i64 e1) := (World.cell?_of_block (hg'.block _ (by simp; try omega) (fun e => hne e.symm))).trans (by simp [go_sem])
        have t1 : w'.cell? ⟨wr.heap.size, 1, none⟩ = some (.int .i64 e2) := (World.cell?_of_block (hg'.block _ (by simp; try omega) (fun e => hne e.symm))).trans (by simp [go_sem])
        have HB' := Lib.hid (Below.grown (Below.trans HBEL.out (show Below w.heap.size wr _ from (by repeat (first | exact Below.refl _ _ | refine Below.drew ?_ | refine Below.alloc ?_ (by first | exact Nat.le_refl _ | (simp; done) | (simp; omega) | omega) _ | refine Below.more ?_ (by first | exact Nat.le_refl _ | (simp; done) | (simp; omega) | omega) _ _ | refine Below.setCell ?_ (by first | exact Nat.le_refl _ | (simp; done) | (simp; omega) | omega) _ | assumption)))) hg' (by first | omega | (simp; omega)) (fun b hb => (own_row HOWN.out b hb).1))
        have hws := HB'.out.size
        have hwr : wr.heap.size < w'.heap.size := World.block_lt_of_cell? _ _ t0
        clear hp' hg' hloc' hne
        have HP2 := Lib.hid (show w'.ownsRow w.heap.size 3 1 v' (M ++ [e2]).length ((M ++ [e2]).map (.int .i64)) from by rw [List.length_append, List.length_singleton, List.map_append]; exact HP'.out)
        have hl2 : (M ++ [e2]).length ≤ 1048576 := by rw [List.length_append, List.length_singleton]; omega
        clear HP'
        generalize M ++ [e2] = M2 at *
        go_wp2_with (at_builtin; go_loud (refine wpList_append_int _ rfl _ _ rfl w.heap.size _ _ _ rfl (own_kept HP2.out (by repeat (first | exact Below.refl _ _ | refine Below.drew ?_ | refine Below.alloc ?_ (by first | exact Nat.le_refl _ | (simp; done) | (simp; omega) | omega) _ | refine Below.more ?_ (by first | exact Nat.le_refl _ | (simp; done) | (simp; omega) | omega) _ _ | refine Below.setCell ?_ (by first | exact Nat.le_refl _ | (simp; done) | (simp; omega) | omega) _ | assumption))) _ 1 rfl e1 ?z1 hl2 ?z2 ?_))
        case z1 => simp [go_sem]
        case z2 => first | omega | (simp; omega)
        intro v2 w2 hp2 hb2
        have HP2' := Lib.hid hp2
        have HB2' := Lib.hid (Below.trans HB'.out (Below.trans (show Below w.heap.size w' _ from (by repeat (first | exact Below.refl _ _ | refine Below.drew ?_ | refine Below.alloc ?_ (by first | exact Nat.le_refl _ | (simp; done) | (simp; omega) | omega) _ | refine Below.more ?_ (by first | exact Nat.le_refl _ | (simp; done) | (simp; omega) | omega) _ _ | refine Below.setCell ?_ (by first | exact Nat.le_refl _ | (simp; done) | (simp; omega) | omega) _ | assumption))) hb2))
        clear hp2 hb2
        go_wp2
        refine ⟨⟨k + 1, by omega, by first | rfl | go_num, HB2'.out, ?_⟩, by simp only [intOf]; omega⟩
        rw [HE.out, List.length_append, List.length_singleton, List.map_append]
        exact HP2'.out
    · have hk1 : ¬ (k : Int) < (n : Int) := by omega
      have hkn : k = n := by omega
      have HOW := Lib.hid (show wr.ownsRow w.heap.size 3 1 u5 (nbOf L x).length ((nbOf L x).map (.int .i64)) from by have h := HOWN.out; rw [hkn, HTA.out] at h; exact h)
      have hlen : (nbOf L x).length ≤ 1048576 := by have := HTL.out n; rw [HTA.out] at this; omega
      have HLS := Lib.hid (len_sortI (nbOf L x))
      clear hkn HOWN
      generalize nbOf L x = M at *
      go_wp2_with (go_at_call 86; refine (sortInts_c w.heap.size _ M _ HOW.out hlen).mono ?_; rintro e w1 ⟨rfl, ho1, hg1⟩; have HO1 := Lib.hid ho1; have HG1 := Lib.hid hg1; clear ho1 hg1)
      go_ret
      refine gives_ints (ts := sortI M) ?_ (Below.grown HBEL.out HG1.out HBEL.out.size (fun g e => (own_row HOW.out g e).1)) (Nat.le_refl _)
      rw [HLS.out]
      exact HO1.out
set_option maxRecDepth 100000 in
set_option maxHeartbeats 4000000 in
theorem spec_Neighbors_c (v : Value) (p : MeshD) (x : Int) (w : World) (hr : MeshR w v p) (hs : MeshSz 1048576 p) :
    Calls Tryz.prog 53 #[v, .int .i64 x] w (Gives w 1 (nbD p x).length (intAt (nbD p x))) := by
  have HME := Lib.hid (fun W (h : Below w.heap.size w W) => spec_Edges_c _ p W (hr.below h) hs)
  obtain ⟨a, c, a', c', rfl, _, _⟩ := hr
  clear hs
  have HEQ := Lib.hid (show (nbPut (edgesD p) x).map (·.1) = nbD p x from nb_eq (ups_edgesD p).2 (ups_edgesD p).1)
  have hl256 := edgesD_le p
  obtain ⟨R, hR⟩ : ∃ R, R = nbD p x := ⟨_, rfl⟩
  rw [← hR] at HEQ ⊢
  clear hR
  generalize edgesD p = L at *
  have HTK := Lib.hid (show ∀ k, k < L.length → nbPut (L.take (k + 1)) x = putEnds x (nbPut (L.take k) x) (L.getD k (0, 0)) from fun k hk => by
    rw [List.take_add_one, List.getElem?_eq_getElem hk, List.getD_eq_getElem?_getD, List.getElem?_eq_getElem hk]; exact nbPut_snoc _ _ _)
  have HTL := Lib.hid (show ∀ k, (nbPut (L.take k) x).length ≤ 600 from fun k => by have := nbPut_len x (L.take k); rw [List.length_take] at this; omega)
  have HTA := Lib.hid (show L.take L.length = L from List.take_length)
  generalize hn : L.length = n at *
  have HN := Lib.hid hn
  clear hn
  generalize p.nV = nv at *
  generalize p.nF = nf at *
  go_enter Tryz.func53, Tryz.ntmps53
  go_wp2_with (go_at_call 16; refine (HME.out _ (by repeat (first | exact Below.refl _ _ | refine Below.drew ?_ | refine Below.alloc ?_ (by first | exact Nat.le_refl _ | (simp; done) | (simp; omega) | omega) _ | refine Below.more ?_ (by first | exact Nat.le_refl _ | (simp; done) | (simp; omega) | omega) _ _ | refine Below.setCell ?_ (by first | exact Nat.le_refl _ | (simp; done) | (simp; omega) | omega) _ | assumption))).mono ?_; rintro e wn ⟨vE, AE, rfl, ho, hbn⟩; have HO := Lib.hid ho; have HBN := Lib.hid hbn; obtain ⟨ea, ec, he⟩ := ho.form; rw [HN.out] at he; subst he; clear ho hbn)
  have hs1 := HBN.out.size
  simp at hs1
  have HB0 := Lib.hid (Below.trans (show Below w.heap.size w _ from (by repeat (first | exact Below.refl _ _ | refine Below.drew ?_ | refine Below.alloc ?_ (by first | exact Nat.le_refl _ | (simp; done) | (simp; omega) | omega) _ | refine Below.more ?_ (by first | exact Nat.le_refl _ | (simp; done) | (simp; omega) | omega) _ _ | refine Below.setCell ?_ (by first | exact Nat.le_refl _ | (simp; done) | (simp; omega) | omega) _ | assumption))) (HBN.out.mono (by simp; try omega)))
  have HP0 : Hid (PairsIn wn w.heap.size wn.heap.size (.slice (some ⟨w.heap.size + 1, 0, none⟩) 0 0) [] (fun _ => none)) := Lib.hid (by
    have h := PairsIn.nil (w := (w.alloc (.cells #[.slice a nv c, .slice a' nf c'] 29)).alloc (.cells #[] 45)) (lo := w.heap.size) (hi := w.heap.size + 2) (g := w.heap.size + 1) (by omega) (by omega) (heap_at_new (by simp))
    exact (h.below HBN.out).mono (by omega))
  obtain ⟨lo, hlo⟩ : ∃ lo, lo = w.heap.size + 2 := ⟨_, rfl⟩
  obtain ⟨hi, hhi⟩ : ∃ hi, hi = wn.heap.size := ⟨_, rfl⟩
  have HE0 := Lib.hid (show PairsIn wn lo hi (.slice ea n ec) L AE from by rw [hlo, hhi]; simpa using HO.out)
  have HNN0 := Lib.hid (show (Value.slice (some ⟨w.heap.size + 1, 0, none⟩) 0 0) ≠ .slice none 0 0 from by simp)
  clear hlo hhi HO HBN hs1
  go_loopw [5, 15] (fun out i wr => ∃ (k : Nat) (A : Nat → Option Addr), k ≤ n ∧ i = .int .i64 k ∧ Below w.heap.size w wr ∧ PairsIn wr w.heap.size wr.heap.size out (nbPut (L.take k) x) A ∧ PairsIn wr lo hi (.slice ea n ec) L AE ∧ Hid (out ≠ .slice none 0 0)) (fun _ i _ => n - (intOf i).toNat)
  case atStart => exact ⟨0, fun _ => none, by omega, rfl, HB0.out, HP0.out, HE0.out, HNN0⟩
  case round =>
    clear HB0 HP0 HE0 HNN0
    obtain ⟨k, A, hk, rfl, hbel, hpr, hpe, HNN⟩ := hrel
    have HBEL := Lib.hid hbel
    have HPR := Lib.hid hpr
    have HPE := Lib.hid hpe
    have hbs := hbel.size
    clear hbel hpr hpe
    by_cases hlt : k < n
    · have hk1 : (k : Int) < (n : Int) := by omega
      obtain ⟨g, cap2, u, hv, hu, hg, hus, d0, d1, d2⟩ := HPE.out.read (i := k) (by rw [HN.out]; exact hlt)
      rw [HN.out] at hv
      simp only [Value.slice.injEq] at hv
      obtain ⟨rfl, _, rfl⟩ := hv
      have HTK1 := Lib.hid (HTK.out k hlt)
      have hl6 := HTL.out k
      have hl2 : (nbPut (L.take k) x).length ≤ 100000 := by omega
      clear hu
      generalize L.getD k (0, 0) = pr at *
      obtain ⟨e1, e2⟩ := pr
      dsimp only at d1 d2
      generalize nbPut (L.take k) x = M at *
      cases b1 : (e1 == x) <;> cases b2 : (e2 == x)
      · have HE := Lib.hid (show nbPut (L.take (k + 1)) x = M from by rw [HTK1.out]; simp at b1 b2; simp [putEnds, b1, b2])
        go_wp2
        exact ⟨⟨k + 1, A, by omega, by go_num, HBEL.out, by rw [HE.out]; exact HPR.out, HPE.out, HNN⟩, by simp only [intOf]; omega⟩
      · have HE := Lib.hid (show nbPut (L.take (k + 1)) x = putE M (e1, 0) from by rw [HTK1.out]; simp at b1 b2; simp [putEnds, b1, b2])
        go_wp2_with (go_at_call 43; refine (l06Put_c w.heap.size _ M A e1 0 _ HPR.out HNN.out hl2 hbs).mono ?_; rintro e wq ⟨v', A', rfl, hp', hn', hb'⟩; have HP' := Lib.hid hp'; have HN' := Lib.hid hn'; have HB' := Lib.hid hb'; clear hp' hn' hb')
        exact ⟨⟨k + 1, A', by omega, by go_num, HBEL.out.trans (HB'.out.mono hbs), by rw [HE.out]; exact HP'.out, HPE.out.below HB'.out, HN'⟩, by simp only [intOf]; omega⟩
      · have HE := Lib.hid (show nbPut (L.take (k + 1)) x = putE M (e2, 0) from by rw [HTK1.out]; simp at b1 b2; simp [putEnds, b1, b2])
        go_wp2_with (go_at_call 43; refine (l06Put_c w.heap.size _ M A e2 0 _ HPR.out HNN.out hl2 hbs).mono ?_; rintro e wq ⟨v', A', rfl, hp', hn', hb'⟩; have z1 := cell_below hb' d1; have z2 := cell_below hb' d2; have HP' := Lib.hid hp'; have HN' := Lib.hid hn'; have HB' := Lib.hid hb'; clear hp' hn' hb')
        exact ⟨⟨k + 1, A', by omega, by go_num, HBEL.out.trans (HB'.out.mono hbs), by rw [HE.out]; exact HP'.out, HPE.out.below HB'.out, HN'⟩, by simp only [intOf]; omega⟩
      · have HE := Lib.hid (show nbPut (L.take (k + 1)) x = putE (putE M (e2, 0)) (e1, 0) from by rw [HTK1.out]; simp at b1 b2; simp [putEnds, b1, b2])
        have hl3 : (putE M (e2, 0)).length ≤ 100000 := by have := putE_len M (e2, 0); omega
        have tok1 : True := trivial
        go_wp2_with (first | (go_at_call 43; have _t := tok1; refine (l06Put_c w.heap.size _ M A e2 0 _ HPR.out HNN.out hl2 hbs).mono ?_; clear tok1; rintro e wq ⟨v', A', rfl, hp', hn', hb'⟩; have z1 := cell_below hb' d1; have z2 := cell_below hb' d2; have hbq := Nat.le_trans hbs hb'.size; have HP' := Lib.hid hp'; have HN' := Lib.hid hn'; have HB' := Lib.hid hb'; clear hp' hn' hb') | (go_at_call 43; refine (l06Put_c w.heap.size _ (putE M (e2, 0)) A' e1 0 _ HP'.out HN'.out hl3 hbq).mono ?_; rintro e wq2 ⟨v2, A2, rfl, hp2, hn2, hb2⟩; have HP2 := Lib.hid hp2; have HN2 := Lib.hid hn2; have HB2 := Lib.hid (HB'.out.trans (hb2.mono HB'.out.size)); clear hp2 hn2 hb2))
        exact ⟨⟨k + 1, A2, by omega, by go_num, HBEL.out.trans (HB2.out.mono hbs), by rw [HE.out]; exact HP2.out, HPE.out.below HB2.out, HN2⟩, by simp only [intOf]; omega⟩
    · have hk1 : ¬ (k : Int) < (n : Int) := by omega
      have hkn : k = n := by omega
      have HPR2 := Lib.hid (show PairsIn wr w.heap.size wr.heap.size u5 (nbPut L x) A from by have h := HPR.out; rw [hkn, HTA.out] at h; exact h)
      have hl2 : (nbPut L x).length ≤ 600 := by have := HTL.out n; rw [HTA.out] at this; exact this
      clear HPR hkn HPE HNN HTK HTL HTA
      generalize nbPut L x = M at *
      obtain ⟨ma, mc, hm⟩ := HPR2.out.form
      subst hm
      have HMK := Lib.hid (show ∀ j, j < M.length → (M.take (j + 1)).map (·.1) = (M.take j).map (·.1) ++ [(M.getD j (0, 0)).1] from fun j hj => by
        rw [List.take_add_one, List.getElem?_eq_getElem hj, List.getD_eq_getElem?_getD, List.getElem?_eq_getElem hj, List.map_append]; rfl)
      have HML := Lib.hid (show ∀ j, ((M.take j).map (·.1)).length ≤ 600 from fun j => by rw [List.length_map, List.length_take]; omega)
      have HMA := Lib.hid (show (M.take M.length).map (·.1) = R from by rw [List.take_length]; exact HEQ.out)
      generalize hm : M.length = m at *
      have HMN := Lib.hid hm
      clear hm
      obtain ⟨lo2, hlo2⟩ : ∃ lo2, lo2 = wr.heap.size := ⟨_, rfl⟩
      have hlb : w.heap.size ≤ lo2 := by omega
      have HPM := Lib.hid (show PairsIn wr w.heap.size lo2 (.slice ma m mc) M A from by rw [hlo2]; exact HPR2.out)
      clear HPR2
      have HOW0 : Hid ((wr.alloc (.cells #[] 3)).ownsRow lo2 3 1 (.slice (some ⟨wr.heap.size, 0, none⟩) 0 0) 0 []) := Lib.hid (by
        have hz := World.ownsRow_made (e := 3) (size := 1) (base := lo2) wr #[] 0 (by omega) (by decide) (by simp)
        simpa using hz)
      have HB1 := Lib.hid (HBEL.out.trans (show Below w.heap.size wr (wr.alloc (.cells #[] 3)) from (by repeat (first | exact Below.refl _ _ | refine Below.drew ?_ | refine Below.alloc ?_ (by first | exact Nat.le_refl _ | (simp; done) | (simp; omega) | omega) _ | refine Below.more ?_ (by first | exact Nat.le_refl _ | (simp; done) | (simp; omega) | omega) _ _ | refine Below.setCell ?_ (by first | exact Nat.le_refl _ | (simp; done) | (simp; omega) | omega) _ | assumption))))
      have HP1 := Lib.hid (HPM.out.below (show Below wr.heap.size wr (wr.alloc (.cells #[] 3)) from (by repeat (first | exact Below.refl _ _ | refine Below.drew ?_ | refine Below.alloc ?_ (by first | exact Nat.le_refl _ | (simp; done) | (simp; omega) | omega) _ | refine Below.more ?_ (by first | exact Nat.le_refl _ | (simp; done) | (simp; omega) | omega) _ _ | refine Below.setCell ?_ (by first | exact Nat.le_refl _ | (simp; done) | (simp; omega) | omega) _ | assumption))))
      have hw1 : lo2 ≤ (wr.alloc (.cells #[] 3)).heap.size := by simp; omega
      clear HPM HBEL hlo2
      go_wp2
      generalize wr.alloc (.cells #[] 3) = W1 at *
      go_loopw [8, 43] (fun out i wr => ∃ (j : Nat), j ≤ m ∧ i = .int .i64 j ∧ Below w.heap.size w wr ∧ PairsIn wr w.heap.size lo2 (.slice ma m mc) M A ∧ lo2 ≤ wr.heap.size ∧ wr.ownsRow lo2 3 1 out ((M.take j).map (·.1)).length (((M.take j).map (·.1)).map (.int .i64))) (fun _ i _ => m - (intOf i).toNat)
      case atStart => exact ⟨0, by omega, rfl, HB1.out, HP1.out, hw1, by simpa using HOW0.out⟩
      case round =>
        clear HB1 HP1 hw1 HOW0
        obtain ⟨j, hj, rfl, hbel, hpm, hwq, hown⟩ := hrel
        have HBEL := Lib.hid hbel
        have HPM := Lib.hid hpm
        have HOWN := Lib.hid hown
        clear hbel hpm hown
        by_cases hjl : j < m
        · have hj1 : (j : Int) < (m : Int) := by omega
          obtain ⟨g, cap2, u, hv, hu, hg, hus, d0, d1, d2⟩ := HPM.out.read (i := j) (by rw [HMN.out]; exact hjl)
          rw [HMN.out] at hv
          simp only [Value.slice.injEq] at hv
          obtain ⟨rfl, _, rfl⟩ := hv
          have HMK1 := Lib.hid (HMK.out j hjl)
          have hl3 := HML.out j
          clear hu
          generalize (M.getD j (0, 0)).1 = e1 at *
          generalize (M.getD j (0, 0)).2 = e2 at *
          generalize (M.take j).map (·.1) = T at *
          go_wp2_with (at_builtin; go_loud (refine wpList_append_intg _ rfl _ _ rfl lo2 _ _ _ rfl (own_kept HOWN.out (by repeat (first | exact Below.refl _ _ | refine Below.drew ?_ | refine Below.alloc ?_ (by first | exact Nat.le_refl _ | (simp; done) | (simp; omega) | omega) _ | refine Below.more ?_ (by first | exact Nat.le_refl _ | (simp; done) | (simp; omega) | omega) _ _ | refine Below.setCell ?_ (by first | exact Nat.le_refl _ | (simp; done) | (simp; omega) | omega) _ | assumption))) _ 1 rfl e1 ?y1 (by omega) ?y2 ?_))
          case y1 => simp [go_sem]
          case y2 => first | omega | (simp; omega)
          intro v' w' hp' hg' hloc'
          have HP' := Lib.hid hp'
          have HB' := Lib.hid (Below.grown (HBEL.out.trans (show Below w.heap.size wr _ from (by repeat (first | exact Below.refl _ _ | refine Below.drew ?_ | refine Below.alloc ?_ (by first | exact Nat.le_refl _ | (simp; done) | (simp; omega) | omega) _ | refine Below.more ?_ (by first | exact Nat.le_refl _ | (simp; done) | (simp; omega) | omega) _ _ | refine Below.setCell ?_ (by first | exact Nat.le_refl _ | (simp; done) | (simp; omega) | omega) _ | assumption)))) hg' (by first | omega | (simp; omega)) (fun b hb => by have := (own_row HOWN.out b hb).1; omega))
          have HPM' := Lib.hid ((HPM.out.below (show Below wr.heap.size wr _ from (by repeat (first | exact Below.refl _ _ | refine Below.drew ?_ | refine Below.alloc ?_ (by first | exact Nat.le_refl _ | (simp; done) | (simp; omega) | omega) _ | refine Below.more ?_ (by first | exact Nat.le_refl _ | (simp; done) | (simp; omega) | omega) _ _ | refine Below.setCell ?_ (by first | exact Nat.le_refl _ | (simp; done) | (simp; omega) | omega) _ | assumption)))).grown hg' (fun b hb => .inr (own_row HOWN.out b hb).1))
          have hs' : lo2 ≤ w'.heap.size := Nat.le_trans (by first | omega | (simp; omega)) hg'.size
          clear hp' hg' hloc'
          go_wp2
          refine ⟨⟨j + 1, by omega, by first | rfl | go_num, HB'.out, HPM'.out, hs', ?_⟩, by simp only [intOf]; omega⟩
          rw [HMK1.out, List.length_append, List.length_singleton, List.map_append]
          exact HP'.out
        · have hj1 : ¬ (j : Int) < (m : Int) := by omega
          have hjm : j = m := by omega
          have HOW := Lib.hid (show wr.ownsRow lo2 3 1 u8 R.length (R.map (.int .i64)) from by have h := HOWN.out; rw [hjm, HMA.out] at h; exact h)
          clear hjm HOWN
          go_wp2
          go_ret
          exact gives_ints HOW.out HBEL.out hlb
end Go.Proofs.YtpfmcobkfofbjaaGreat
namespace Go.Proofs.YtpfmcobkfofbjaaGreat
open Go.RowKit
open Classical in
/-- x stands before place j. -/
noncomputable def inTo (f : List Int) (x : Int) (j : Nat) : Bool := decide (∃ t, t < j ∧ f.getD t 0 = x)
noncomputable def hasB (f : List Int) (x : Int) : Bool := inTo f x f.length
theorem inTo_zero (f : List Int) (x : Int) : inTo f x 0 = false := by simp [inTo]
theorem inTo_yes {f : List Int} {x : Int} {j t : Nat} (h : t < j) (e : f.getD t 0 = x) : inTo f x j = true := by
  simp only [inTo, decide_eq_true_eq]; exact ⟨t, h, e⟩
theorem inTo_no {f : List Int} {x : Int} {j : Nat} (h : ∀ t, t < j → f.getD t 0 ≠ x) : inTo f x j = false := by
  simp only [inTo, decide_eq_false_iff_not]; rintro ⟨t, h1, h2⟩; exact h t h1 h2
theorem inTo_succ_ne {f : List Int} {x : Int} {j : Nat} (h : f.getD j 0 ≠ x) : inTo f x (j + 1) = inTo f x j := by
  unfold inTo
  congr 1
  apply propext
  constructor
  · rintro ⟨t, h1, h2⟩
    refine ⟨t, ?_, h2⟩
    rcases Nat.lt_or_ge t j with h3 | h3
    · exact h3
    · obtain rfl : t = j := by omega
      exact absurd h2 h
  · rintro ⟨t, h1, h2⟩; exact ⟨t, by omega, h2⟩
set_option maxRecDepth 100000 in
theorem indexAny_c (a : Option Addr) (cap : Nat) (l : List Int) (n : Nat) (HN : Hid (l.length = n)) (v : Int) (w : World) (hr : Sl w a 1 n (intAt l)) (hn : n ≤ 1048576) :
    Calls Tryz.prog 80 #[.slice a n cap, .int .i64 v] w fun e w' => ∃ r : Int, e = .returned (.int .i64 r) ∧ w = w' ∧ (0 ≤ r ↔ hasB l v = true) := by
  have HR := Lib.hid hr
  clear hr
  go_enter Tryz.func80, Tryz.ntmps80
  go_wp2
  go_loop [8] (fun i => ∃ (j : Nat), j ≤ n ∧ i = .int .i64 j ∧ Hid (∀ t, t < j → l.getD t 0 ≠ v)) (fun i => n - (intOf i).toNat)
  case atStart => exact ⟨0, by omega, rfl, Lib.hid fun j hj => by omega⟩
  case round =>
    obtain ⟨j, hj, rfl, HALL⟩ := hrel
    by_cases hlt : j < n
    · have hj1 : (j : Int) < (n : Int) := by omega
      have hj2 : (0 : Int) ≤ (j : Int) := by omega
      obtain ⟨b, o, rfl, hb, hc⟩ := HR.out (by omega)
      have c0 : w.cell? ⟨b, o + j, none⟩ = some (.int .i64 (l.getD j 0)) := by
        have := hc j (by omega) 0 (by omega)
        rw [Nat.mul_one, Nat.add_zero] at this
        rw [this]; simp [intAt]
      clear hc
      have HY := Lib.hid (show l.getD j 0 = v → hasB l v = true from fun e => inTo_yes (by rw [HN.out]; exact hlt) e)
      have HX := Lib.hid (show l.getD j 0 ≠ v → ∀ t, t < j + 1 → l.getD t 0 ≠ v from fun h t ht => by
        by_cases e : t = j
        · subst e; exact h
        · exact HALL.out t (by omega))
      generalize l.getD j 0 = x at *
      by_cases hvx : v = x
      · have HF := Lib.hid (HY.out hvx.symm)
        subst hvx
        go_wp2
        go_ret
        exact ⟨(j : Int), rfl, rfl, by rw [HF.out]; simp⟩
      · have hb0 : (v == x) = false := by simpa using hvx
        have HF := Lib.hid (HX.out (fun e => hvx e.symm))
        clear hvx
        go_wp2
        go_round
        case rel => exact ⟨j + 1, by omega, rfl, HF⟩
        case measure => simp only [intOf]; omega
    · have hj1 : ¬ (j : Int) < (n : Int) := by omega
      have HF := Lib.hid (show hasB l v = false from inTo_no (fun t ht => HALL.out t (by rw [HN.out] at ht; omega)))
      go_wp2
      go_ret
      exact ⟨-1, rfl, rfl, by rw [HF.out]; simp⟩
theorem contains_c (a : Option Addr) (cap : Nat) (l : List Int) (n : Nat) (HN : Hid (l.length = n)) (v : Int) (w : World) (hr : Sl w a 1 n (intAt l)) (hn : n ≤ 1048576) :
    Calls Tryz.prog 85 #[.slice a n cap, .int .i64 v] w fun e w' => e = .returned (.bool (hasB l v)) ∧ w = w' := by
  have HR := Lib.hid hr
  clear hr
  go_enter Tryz.func85, Tryz.ntmps85
  go_wp2_with (go_at_call 80; refine (indexAny_c a cap l n HN v _ HR.out hn).mono ?_; rintro e w' ⟨r, rfl, rfl, hr⟩; have HR := Lib.hid hr; clear hr)
  all_goals
    go_ret
    refine ⟨ret_bool ?_, rfl⟩
    have := HR.out
    cases h : hasB l v <;> simp [h] at this ⊢ <;> omega
end Go.Proofs.YtpfmcobkfofbjaaGreat
namespace Go.Proofs.YtpfmcobkfofbjaaGreat
open Go Go.RowKit
/-- The faces before k that have the vertex x. -/
noncomputable def vfTo (s : List (List Int)) (x : Int) (k : Nat) : List Int := ((List.range k).filter fun i => hasB (faceAt s i) x).map fun i : Nat => (i : Int)
theorem vfTo_succ (s : List (List Int)) (x : Int) (k : Nat) : vfTo s x (k + 1) = vfTo s x k ++ (if hasB (faceAt s k) x then [(k : Int)] else []) := by
  simp only [vfTo, List.range_succ, List.filter_append, List.map_append, List.filter_cons, List.filter_nil]
  split <;> simp
theorem vfTo_len (s : List (List Int)) (x : Int) (k : Nat) : (vfTo s x k).length ≤ k := by
  have := List.length_filter_le (fun i => hasB (faceAt s i) x) (List.range k)
  simpa [vfTo] using this
noncomputable def vfacesD (p : MeshD) (x : Int) : List Int := if meshOkB p then vfTo p.faces x p.nF else []
theorem vfacesD_len (p : MeshD) (x : Int) : (vfacesD p x).length ≤ 1048576 := by
  unfold vfacesD
  split
  · have := vfTo_len p.faces x p.nF
    have h := (meshOkB_true.1 (by assumption)).2.1
    omega
  · simp
set_option maxRecDepth 100000 in
set_option maxHeartbeats 1000000 in
theorem impl_vertexFaces_c (v : Value) (p : MeshD) (x : Int) (w : World) (hr : MeshR w v p) (hs : MeshSz 1048576 p) :
    Calls Tryz.prog 62 #[v, .int .i64 x] w (Gives w 1 (vfTo p.faces x p.nF).length (intAt (vfTo p.faces x p.nF))) := by
  obtain ⟨a, c, a', c', rfl, h1, ⟨A, K, h2, h3, h4⟩⟩ := hr
  obtain ⟨hs1, hs2, hs3⟩ := hs
  generalize p.nV = n at *
  generalize p.nF = m at *
  generalize p.verts = l at *
  generalize p.faces = s at *
  have HF := Lib.hid h2
  have HQ := Lib.hid h3
  have HSZ := Lib.hid hs3
  clear h1 h2 h3 h4 hs3
  go_enter Tryz.func62, Tryz.ntmps62
  go_wp2
  go_loopw [5, 12] (fun out i wr => ∃ (k : Nat), k ≤ m ∧ i = .int .i64 k ∧ Below w.heap.size w wr ∧ w.heap.size + 1 ≤ wr.heap.size ∧ wr.ownsRow (w.heap.size + 1) 3 1 out (vfTo s x k).length ((vfTo s x k).map (.int .i64))) (fun _ i _ => m - (intOf i).toNat)
  case atStart =>
    refine ⟨0, by omega, rfl, (by repeat (first | exact Below.refl _ _ | refine Below.drew ?_ | refine Below.alloc ?_ (by first | exact Nat.le_refl _ | (simp; done) | (simp; omega) | omega) _ | refine Below.more ?_ (by first | exact Nat.le_refl _ | (simp; done) | (simp; omega) | omega) _ _ | refine Below.setCell ?_ (by first | exact Nat.le_refl _ | (simp; done) | (simp; omega) | omega) _ | assumption)), by simp, ?_⟩
    have hz := World.ownsRow_made (e := 3) (size := 1) (base := w.heap.size + 1) (w.alloc (.cells #[.slice a n c, .slice a' m c'] 29)) #[] 0 (by simp) (by decide) (by simp)
    simpa [vfTo] using hz
  case round =>
    obtain ⟨k, hk, rfl, hbel, hws, hown⟩ := hrel
    have HBEL := Lib.hid hbel
    have HOWN := Lib.hid hown
    clear hbel hown
    by_cases hlt : k < m
    · have hk1 : (k : Int) < (m : Int) := by omega
      obtain ⟨b, o, e, hb, hc⟩ := HF.out.below HBEL.out (by omega)
      subst e
      have c0 : wr.cell? ⟨b, o + k, none⟩ = some (.slice (A k) (faceAt s k).length (K k)) := by have := hc k hlt 0 (by omega); rw [Nat.mul_one, Nat.add_zero] at this; exact this
      clear hc
      have hsl : Sl wr (A k) 1 (faceAt s k).length (intAt (faceAt s k)) := (HQ.out k hlt).below HBEL.out
      have hsn := HSZ.out k hlt
      have HSU := Lib.hid (vfTo_succ s x k)
      have hln : (vfTo s x k).length ≤ 1048576 := Nat.le_trans (vfTo_len s x k) (by omega)
      generalize A k = ak at *
      generalize K k = kk at *
      generalize faceAt s k = f at *
      generalize vfTo s x k = L0 at *
      have HSL := Lib.hid hsl
      clear hsl
      generalize hq : f.length = q at *
      have HQL := Lib.hid hq
      clear hq
      cases hh : hasB f x
      · have HE := Lib.hid (show vfTo s x (k + 1) = L0 by rw [HSU.out, hh]; simp)
        have HH := Lib.hid hh
        clear hh
        go_wp2_with (go_at_call 85; refine (contains_c _ _ f q HQL x _ (HSL.out.below (by repeat (first | exact Below.refl _ _ | refine Below.drew ?_ | refine Below.alloc ?_ (by first | exact Nat.le_refl _ | (simp; done) | (simp; omega) | omega) _ | refine Below.more ?_ (by first | exact Nat.le_refl _ | (simp; done) | (simp; omega) | omega) _ _ | refine Below.setCell ?_ (by first | exact Nat.le_refl _ | (simp; done) | (simp; omega) | omega) _ | assumption))) hsn).mono ?_; rw [HH.out]; rintro e w' ⟨rfl, rfl⟩)
        refine ⟨⟨k + 1, by omega, rfl, Below.trans HBEL.out (by repeat (first | exact Below.refl _ _ | refine Below.drew ?_ | refine Below.alloc ?_ (by first | exact Nat.le_refl _ | (simp; done) | (simp; omega) | omega) _ | refine Below.more ?_ (by first | exact Nat.le_refl _ | (simp; done) | (simp; omega) | omega) _ _ | refine Below.setCell ?_ (by first | exact Nat.le_refl _ | (simp; done) | (simp; omega) | omega) _ | assumption)), by first | exact hws | (simp; omega), ?_⟩, by simp only [intOf]; omega⟩
        rw [HE.out]
        exact own_kept HOWN.out (by repeat (first | exact Below.refl _ _ | refine Below.drew ?_ | refine Below.alloc ?_ (by first | exact Nat.le_refl _ | (simp; done) | (simp; omega) | omega) _ | refine Below.more ?_ (by first | exact Nat.le_refl _ | (simp; done) | (simp; omega) | omega) _ _ | refine Below.setCell ?_ (by first | exact Nat.le_refl _ | (simp; done) | (simp; omega) | omega) _ | assumption))
      · have HE := Lib.hid (show vfTo s x (k + 1) = L0 ++ [(k : Int)] by rw [HSU.out, hh]; simp)
        have HH := Lib.hid hh
        clear hh
        go_wp2_with (first | (go_at_call 85; refine (contains_c _ _ f q HQL x _ (HSL.out.below (by repeat (first | exact Below.refl _ _ | refine Below.drew ?_ | refine Below.alloc ?_ (by first | exact Nat.le_refl _ | (simp; done) | (simp; omega) | omega) _ | refine Below.more ?_ (by first | exact Nat.le_refl _ | (simp; done) | (simp; omega) | omega) _ _ | refine Below.setCell ?_ (by first | exact Nat.le_refl _ | (simp; done) | (simp; omega) | omega) _ | assumption))) hsn).mono ?_; rw [HH.out]; rintro e w' ⟨rfl, rfl⟩) | (at_builtin; go_loud (refine wpList_append_int _ rfl _ _ rfl (w.heap.size + 1) _ _ _ rfl (own_kept HOWN.out (by repeat (first | exact Below.refl _ _ | refine Below.drew ?_ | refine Below.alloc ?_ (by first | exact Nat.le_refl _ | (simp; done) | (simp; omega) | omega) _ | refine Below.more ?_ (by first | exact Nat.le_refl _ | (simp; done) | (simp; omega) | omega) _ _ | refine Below.setCell ?_ (by first | exact Nat.le_refl _ | (simp; done) | (simp; omega) | omega) _ | assumption))) _ 1 rfl (k : Int) ?c1 hln ?c2 ?_)))
        case c1 => simp [go_sem]
        case c2 => simp; omega
        intro v' w' hp' hb'
        have HP' := Lib.hid hp'
        have HB' := Lib.hid (Below.trans HBEL.out (Below.trans (show Below w.heap.size wr _ from (by repeat (first | exact Below.refl _ _ | refine Below.drew ?_ | refine Below.alloc ?_ (by first | exact Nat.le_refl _ | (simp; done) | (simp; omega) | omega) _ | refine Below.more ?_ (by first | exact Nat.le_refl _ | (simp; done) | (simp; omega) | omega) _ _ | refine Below.setCell ?_ (by first | exact Nat.le_refl _ | (simp; done) | (simp; omega) | omega) _ | assumption))) (hb'.mono (Nat.le_succ _))))
        have hws' := Nat.le_trans hws (Nat.le_trans (show wr.heap.size ≤ _ from by simp) hb'.size)
        clear hp' hb'
        go_wp2
        refine ⟨⟨k + 1, by omega, rfl, HB'.out, hws', ?_⟩, by simp only [intOf]; omega⟩
        rw [HE.out, List.length_append, List.length_singleton, List.map_append]
        exact HP'.out
    · have hk1 : ¬ (k : Int) < (m : Int) := by omega
      obtain rfl : k = m := by omega
      go_wp2
      go_ret
      exact gives_ints HOWN.out HBEL.out (Nat.le_succ _)
end Go.Proofs.YtpfmcobkfofbjaaGreat
namespace Go.Proofs.YtpfmcobkfofbjaaGreat
open Go Go.RowKit
/-- The face k, where x stands in it before place j. -/
noncomputable def kIf (f : List Int) (x : Int) (j k : Nat) : List Int := if inTo f x j then [(k : Int)] else []
theorem kIf_len (f : List Int) (x : Int) (j k : Nat) : (kIf f x j k).length ≤ 1 := by unfold kIf; split <;> simp
set_option maxRecDepth 100000 in
set_option maxHeartbeats 2000000 in
theorem spec_VertexFaces_c (v : Value) (p : MeshD) (x : Int) (w : World) (hr : MeshR w v p) (hs : MeshSz 1048576 p) :
    Calls Tryz.prog 52 #[v, .int .i64 x] w (Gives w 1 (vfacesD p x).length (intAt (vfacesD p x))) := by
  have HM := Lib.hid hr
  have HS := Lib.hid hs
  obtain ⟨a, c, a', c', rfl, h1, ⟨A, K, h2, h3, h4⟩⟩ := hr
  obtain ⟨hs1, hs2, hs3⟩ := hs
  clear h1 h4 hs3
  cases hok : meshOkB p
  · have HE := Lib.hid (show vfacesD p x = [] by simp [vfacesD, hok])
    have HOK := Lib.hid hok
    clear hok h2 h3
    go_enter Tryz.func52, Tryz.ntmps52
    go_wp2_with (go_at_call 17; refine (spec_IsValidMesh_c _ p _ (HM.out.below (by repeat (first | exact Below.refl _ _ | refine Below.drew ?_ | refine Below.alloc ?_ (by first | exact Nat.le_refl _ | (simp; done) | (simp; omega) | omega) _ | refine Below.more ?_ (by first | exact Nat.le_refl _ | (simp; done) | (simp; omega) | omega) _ _ | refine Below.setCell ?_ (by first | exact Nat.le_refl _ | (simp; done) | (simp; omega) | omega) _ | assumption))) HS.out).mono ?_; rw [HOK.out]; rintro e wn ⟨rfl, hbn⟩; obtain ⟨X, nX, rfl⟩ := Below.ext hbn; clear hbn)
    go_ret
    rw [HE.out]
    exact Gives.nil (by repeat (first | exact Below.refl _ _ | refine Below.drew ?_ | refine Below.alloc ?_ (by first | exact Nat.le_refl _ | (simp; done) | (simp; omega) | omega) _ | refine Below.more ?_ (by first | exact Nat.le_refl _ | (simp; done) | (simp; omega) | omega) _ _ | refine Below.setCell ?_ (by first | exact Nat.le_refl _ | (simp; done) | (simp; omega) | omega) _ | assumption))
  · have HE := Lib.hid (show vfacesD p x = vfTo p.faces x p.nF by simp [vfacesD, hok])
    have HOK := Lib.hid hok
    have HFO := Lib.hid (meshOkB_true.1 hok).2.2.2.1
    have hm64 : p.nF ≤ 64 := (meshOkB_true.1 hok).2.1
    have HVM := Lib.hid (fun (W : World) (hb : Below w.heap.size w W) => spec_IsValidMesh_c _ p W (HM.out.below hb) HS.out)
    rw [hok] at HVM
    clear hok HM HS
    rw [HE.out]
    clear HE HOK
    generalize p.nV = n at *
    generalize p.nF = m at *
    generalize p.faces = s at *
    have HF := Lib.hid h2
    have HQ := Lib.hid h3
    clear h2 h3
    go_enter Tryz.func52, Tryz.ntmps52
    go_wp2_with (go_at_call 17; refine (HVM.out _ (by repeat (first | exact Below.refl _ _ | refine Below.drew ?_ | refine Below.alloc ?_ (by first | exact Nat.le_refl _ | (simp; done) | (simp; omega) | omega) _ | refine Below.more ?_ (by first | exact Nat.le_refl _ | (simp; done) | (simp; omega) | omega) _ _ | refine Below.setCell ?_ (by first | exact Nat.le_refl _ | (simp; done) | (simp; omega) | omega) _ | assumption))).mono ?_; rintro e wn ⟨rfl, hbn⟩; have q1 : wn.cell? ⟨w.heap.size, 1, none⟩ = some (.slice a' m c') := cell_below hbn (by simp [go_sem]); have HBN := Lib.hid hbn; clear hbn)
    have hs0 := HBN.out.size
    simp only [World.size_alloc] at hs0
    have HB0 := Lib.hid (Below.trans (show Below w.heap.size w _ from (by repeat (first | exact Below.refl _ _ | refine Below.drew ?_ | refine Below.alloc ?_ (by first | exact Nat.le_refl _ | (simp; done) | (simp; omega) | omega) _ | refine Below.more ?_ (by first | exact Nat.le_refl _ | (simp; done) | (simp; omega) | omega) _ _ | refine Below.setCell ?_ (by first | exact Nat.le_refl _ | (simp; done) | (simp; omega) | omega) _ | assumption))) (HBN.out.mono (by simp; omega)))
    have HO0 : Hid (wn.ownsRow (w.heap.size + 1) 3 1 (.slice (some ⟨w.heap.size + 1, 0, none⟩) 0 0) 0 []) := Lib.hid (own_kept (by
      have hz := World.ownsRow_made (e := 3) (size := 1) (base := w.heap.size + 1) (w.alloc (.cells #[.slice a n c, .slice a' m c'] 29)) #[] 0 (by simp) (by decide) (by simp)
      simpa using hz) HBN.out)
    clear HBN
    go_loopw [5, 17] (fun out i wr => ∃ (k : Nat), k ≤ m ∧ i = .int .i64 k ∧ Below w.heap.size w wr ∧ wr.cell? ⟨w.heap.size, 1, none⟩ = some (.slice a' m c') ∧ wr.ownsRow (w.heap.size + 1) 3 1 out (vfTo s x k).length ((vfTo s x k).map (.int .i64))) (fun _ i _ => m - (intOf i).toNat)
    case atStart => exact ⟨0, by omega, rfl, HB0.out, q1, by simpa [vfTo] using HO0.out⟩
    case round =>
      clear HB0 HO0 q1 hs0
      obtain ⟨k, hk, rfl, hbel, q1, hown⟩ := hrel
      have HBEL := Lib.hid hbel
      have HOWN := Lib.hid hown
      have y1 : w.heap.size < wr.heap.size := World.block_lt_of_cell? _ _ q1
      clear hbel hown
      by_cases hlt : k < m
      · have hk1 : (k : Int) < (m : Int) := by omega
        obtain ⟨b, o, e, hb, hc⟩ := HF.out.below HBEL.out (by omega)
        subst e
        have c0 : wr.cell? ⟨b, o + k, none⟩ = some (.slice (A k) (faceAt s k).length (K k)) := by have := hc k hlt 0 (by omega); rw [Nat.mul_one, Nat.add_zero] at this; exact this
        clear hc
        have hsl : Sl w (A k) 1 (faceAt s k).length (intAt (faceAt s k)) := HQ.out k hlt
        obtain ⟨hq, _, hdis⟩ := HFO.out k hlt
        have HSU := Lib.hid (show vfTo s x (k + 1) = vfTo s x k ++ kIf (faceAt s k) x (faceAt s k).length k from vfTo_succ s x k)
        have hln : (vfTo s x k).length ≤ 64 := Nat.le_trans (vfTo_len s x k) (by omega)
        generalize A k = ak at *
        generalize K k = kk at *
        generalize faceAt s k = f at *
        generalize vfTo s x k = L0 at *
        rw [hq] at c0 hsl
        have HSL := Lib.hid hsl
        have HQL := Lib.hid hq
        have HDIS := Lib.hid hdis
        clear hsl hq hdis
        go_wp2
        go_loopw [5, 24] (fun out i wr => ∃ (j : Nat), j ≤ 4 ∧ i = .int .i64 j ∧ Below w.heap.size w wr ∧ wr.cell? ⟨w.heap.size, 1, none⟩ = some (.slice (some ⟨b, o, none⟩) m c') ∧ wr.ownsRow (w.heap.size + 1) 3 1 out (L0 ++ kIf f x j k).length ((L0 ++ kIf f x j k).map (.int .i64))) (fun _ i _ => 4 - (intOf i).toNat)
        case atStart => exact ⟨0, by omega, rfl, HBEL.out, q1, by rw [show kIf f x 0 k = [] by simp [kIf, inTo_zero], List.append_nil]; exact HOWN.out⟩
        case round =>
          clear HBEL HOWN q1
          obtain ⟨j, hj, rfl, hbel, q1, hown⟩ := hrel
          have HBEL := Lib.hid hbel
          have HOWN := Lib.hid hown
          have y1 : w.heap.size < wr.heap.size := World.block_lt_of_cell? _ _ q1
          clear hbel hown
          by_cases hjl : j < 4
          · have hj1 : (j : Int) < 4 := by omega
            obtain ⟨b2, o2, e2, hb2, hc2⟩ := HSL.out.below HBEL.out (by omega)
            have d0 : wr.cell? ⟨b2, o2 + j, none⟩ = some (.int .i64 (f.getD j 0)) := by
              have := hc2 j hjl 0 (by omega)
              rw [Nat.mul_one, Nat.add_zero] at this
              rw [this]; simp [intAt]
            clear hc2
            subst e2
            have HNE := Lib.hid (show f.getD j 0 ≠ x → kIf f x (j + 1) k = kIf f x j k from fun h => by unfold kIf; rw [inTo_succ_ne h])
            have HEQ := Lib.hid (show f.getD j 0 = x → kIf f x j k = [] ∧ kIf f x (j + 1) k = [(k : Int)] from fun h => by
              refine ⟨?_, ?_⟩
              · unfold kIf
                rw [inTo_no (fun t ht e => HDIS.out t j ht (by rw [HQL.out]; omega) (e.trans h.symm))]
                simp
              · unfold kIf
                rw [inTo_yes (Nat.lt_succ_self j) h]
                simp)
            have hl2 : (L0 ++ kIf f x j k).length ≤ 65 := by rw [List.length_append]; have := kIf_len f x j k; omega
            generalize f.getD j 0 = y at *
            by_cases hxy : y = x
            · have hb1 : (y == x) = true := by simpa using hxy
              have HEQ2 := Lib.hid (HEQ.out hxy)
              clear hxy
              have HOW2 : Hid (wr.ownsRow (w.heap.size + 1) 3 1 _ L0.length (L0.map (.int .i64))) := Lib.hid (by have h := HOWN.out; rw [HEQ2.out.1, List.append_nil] at h; exact h)
              go_wp2_with (at_builtin; go_loud (refine wpList_append_int _ rfl _ _ rfl (w.heap.size + 1) _ _ _ rfl (own_kept HOW2.out (by repeat (first | exact Below.refl _ _ | refine Below.drew ?_ | refine Below.alloc ?_ (by first | exact Nat.le_refl _ | (simp; done) | (simp; omega) | omega) _ | refine Below.more ?_ (by first | exact Nat.le_refl _ | (simp; done) | (simp; omega) | omega) _ _ | refine Below.setCell ?_ (by first | exact Nat.le_refl _ | (simp; done) | (simp; omega) | omega) _ | assumption))) _ 1 rfl (k : Int) ?c1 (by omega) ?c2 ?_))
              case c1 => simp [go_sem]
              case c2 => first | omega | (simp; omega)
              intro v' w' hp' hb'
              have HP' := Lib.hid hp'
              have HB1 := Lib.hid (Below.trans (show Below (w.heap.size + 1) wr _ from (by repeat (first | exact Below.refl _ _ | refine Below.drew ?_ | refine Below.alloc ?_ (by first | exact Nat.le_refl _ | (simp; done) | (simp; omega) | omega) _ | refine Below.more ?_ (by first | exact Nat.le_refl _ | (simp; done) | (simp; omega) | omega) _ _ | refine Below.setCell ?_ (by first | exact Nat.le_refl _ | (simp; done) | (simp; omega) | omega) _ | assumption))) hb')
              clear hp' hb'
              have z1 := (HB1.out.cell (p := ⟨w.heap.size, 1, none⟩) (Nat.lt_succ_self _)).trans q1
              go_wp2
              refine ⟨⟨j + 1, by omega, rfl, Below.trans HBEL.out (HB1.out.mono (Nat.le_succ _)), z1, ?_⟩, by simp only [intOf]; omega⟩
              rw [HEQ2.out.2, List.length_append, List.length_singleton, List.map_append]
              exact HP'.out
            · have hb1 : (y == x) = false := by simpa using hxy
              have HN2 := Lib.hid (HNE.out hxy)
              clear hxy
              go_wp2
              refine ⟨⟨j + 1, by omega, rfl, HBEL.out, q1, by rw [HN2.out]; exact HOWN.out⟩, by simp only [intOf]; omega⟩
          · have hj1 : ¬ (j : Int) < 4 := by omega
            obtain rfl : j = 4 := by omega
            have HE4 := Lib.hid (show L0 ++ kIf f x 4 k = vfTo s x (k + 1) by rw [HSU.out, HQL.out])
            go_wp2
            refine ⟨⟨k + 1, by omega, rfl, HBEL.out, q1, by rw [← HE4.out]; exact HOWN.out⟩, by simp only [intOf]; omega⟩
      · have hk1 : ¬ (k : Int) < (m : Int) := by omega
        obtain rfl : k = m := by omega
        go_wp2
        go_ret
        exact gives_ints HOWN.out HBEL.out (Nat.le_succ _)
end Go.Proofs.YtpfmcobkfofbjaaGreat
namespace Go.Proofs.YtpfmcobkfofbjaaGreat
open Go Go.RowKit
theorem mul_bd {x k A B : Int} (hx : -A ≤ x ∧ x ≤ A) (hk : -B ≤ k ∧ k ≤ B) : -(A * B) ≤ x * k ∧ x * k ≤ A * B := by
  have h1 : x.natAbs * k.natAbs ≤ A.natAbs * B.natAbs := Nat.mul_le_mul (by omega) (by omega)
  rw [← Int.natAbs_mul, ← Int.natAbs_mul] at h1
  have h2 : 0 ≤ A * B := Int.mul_nonneg (by omega) (by omega)
  generalize x * k = y at *
  generalize A * B = C at *
  omega
def sumG (g : VecD → Int) (p : MeshD) (l : List Int) : Int := (l.map fun x => g (vtx p x)).sum
def sumH (g : VecD → Int) (p : MeshD) (l : List Int) : Int := (l.map fun x => g (fpD p x)).sum
theorem sumG_snoc (g : VecD → Int) (p : MeshD) (l : List Int) (x : Int) : sumG g p (l ++ [x]) = sumG g p l + g (vtx p x) := by simp [sumG]
theorem sumH_snoc (g : VecD → Int) (p : MeshD) (l : List Int) (x : Int) : sumH g p (l ++ [x]) = sumH g p l + g (fpD p x) := by simp [sumH]
theorem sum_perm {l m : List Int} (h : l.Perm m) : l.sum = m.sum := by
  induction h with
  | nil => rfl
  | cons x _ ih => simp [ih]
  | swap x y l => simp only [List.sum_cons]; omega
  | trans _ _ h1 h2 => rw [h1, h2]
theorem sumG_sort (g : VecD → Int) (p : MeshD) (l : List Int) : sumG g p (sortI l) = sumG g p l := sum_perm ((List.mergeSort_perm l _).map _)
theorem sum_bd {α : Type} {f : α → Int} {B : Int} : ∀ {l : List α}, (∀ x ∈ l, -B ≤ f x ∧ f x ≤ B) → -(B * l.length) ≤ (l.map f).sum ∧ (l.map f).sum ≤ B * l.length
  | [], _ => by simp
  | x :: l, h => by
    have h1 := sum_bd (l := l) (fun y hy => h y (by simp [hy]))
    have h2 := h x (by simp)
    simp only [List.map_cons, List.sum_cons, List.length_cons, Int.natCast_add, Int.mul_add]
    omega
/-- The three parts of a vertex, each at most a million. -/
theorem vtx_in {p : MeshD} (h : meshOk p) {x : Int} (hx : 0 ≤ x ∧ x < (p.nV : Int)) : (-1000000 ≤ (vtx p x).f0 ∧ (vtx p x).f0 ≤ 1000000) ∧ (-1000000 ≤ (vtx p x).f1 ∧ (vtx p x).f1 ≤ 1000000) ∧ (-1000000 ≤ (vtx p x).f2 ∧ (vtx p x).f2 ≤ 1000000) := by
  have := h.2.2.1 x.toNat (by omega)
  simp only [vecOkD, vecOk, Bool.and_eq_true, inB_true] at this
  exact ⟨this.1.1, this.1.2, this.2⟩
/-- The neighbours of a vertex are vertices. -/
theorem nb_in {p : MeshD} (h : meshOk p) {L : List (Int × Int)} (hL : ∀ e ∈ L, e ∈ edgesL p.faces p.nF) {v x : Int} (hx : x ∈ nbOf L v) : 0 ≤ x ∧ x < (p.nV : Int) := by
  simp only [nbOf, List.mem_flatMap] at hx
  obtain ⟨e, he, hx⟩ := hx
  obtain ⟨i, j, hi, hj, rfl⟩ := mem_edgesL (hL e he)
  have hs := step_in (h.2.2.2.1 i hi) hj
  generalize stepAt (faceAt p.faces i) j = q at *
  obtain ⟨a, b⟩ := q
  simp only [endsE, List.mem_append] at hx
  simp only at hs
  rcases hx with hx | hx
  · by_cases hh : (und (a, b)).1 = v
    · rw [if_pos hh] at hx; simp [und] at hx; omega
    · rw [if_neg hh] at hx; cases hx
  · by_cases hh : (und (a, b)).2 = v
    · rw [if_pos hh] at hx; simp [und] at hx; omega
    · rw [if_neg hh] at hx; cases hx
theorem vf_in {p : MeshD} {v x : Int} (hx : x ∈ vfTo p.faces v p.nF) : 0 ≤ x ∧ x < (p.nF : Int) := by
  simp only [vfTo, List.mem_map, List.mem_filter, List.mem_range] at hx
  obtain ⟨i, ⟨hi, _⟩, rfl⟩ := hx
  omega
/-- The point of a vertex v of a valid mesh. -/
noncomputable def vpE (p : MeshD) (v : Int) : Value :=
  let ends := nbOf (bndL p.faces p.nF) v
  let faces := vfTo p.faces v p.nF
  let nbs := nbOf (edgesL p.faces p.nF) v
  let n : Int := faces.length
  let old := vtx p v
  let mid := fun g : VecD → Int => fdivI (g old * 6 + sumG g p ends) 8
  let in_ := fun g : VecD → Int => fdivI (g old * (n * (n - 3)) + sumH g p faces + (g old * nbs.length + sumG g p nbs)) (n * n)
  if ends.length = 2 then vecV (mid (·.f0)) (mid (·.f1)) (mid (·.f2))
  else if 0 < ends.length ∨ faces.length = 0 then vecV old.f0 old.f1 old.f2
  else vecV (in_ (·.f0)) (in_ (·.f1)) (in_ (·.f2))
noncomputable def vpR (p : MeshD) (v : Int) : Value := open Classical in if meshOk p ∧ 0 ≤ v ∧ v ≤ (p.nV : Int) - 1 then vpE p v else vecV 0 0 0
theorem vpR_yes {p : MeshD} {v : Int} (h : meshOk p ∧ 0 ≤ v ∧ v ≤ (p.nV : Int) - 1) : vpR p v = vpE p v := if_pos h
theorem vpR_no {p : MeshD} {v : Int} (h : ¬ (meshOk p ∧ 0 ≤ v ∧ v ≤ (p.nV : Int) - 1)) : vpR p v = vecV 0 0 0 := if_neg h
theorem vpE_vec (p : MeshD) (v : Int) : ∃ x y z, vpE p v = vecV x y z := by
  unfold vpE
  dsimp only
  split
  · exact ⟨_, _, _, rfl⟩
  · split <;> exact ⟨_, _, _, rfl⟩
theorem vpR_vec (p : MeshD) (v : Int) : ∃ x y z, vpR p v = vecV x y z := by
  unfold vpR
  split
  · exact vpE_vec p v
  · exact ⟨_, _, _, rfl⟩
set_option maxRecDepth 100000 in
set_option maxHeartbeats 2000000 in
theorem l07Rim_c (v : Value) (p : MeshD) (x : Int) (w : World) (hr : MeshR w v p) (hs : MeshSz 1048576 p) :
    Calls Tryz.prog 48 #[v, .int .i64 x] w (Gives w 1 (nbOf (bndD p) x).length (intAt (nbOf (bndD p) x))) := by
  have HME := Lib.hid (fun W (h : Below w.heap.size w W) => spec_BoundaryEdges_c _ p W (hr.below h) hs)
  obtain ⟨a, c, a', c', rfl, _, _⟩ := hr
  clear hs
  have hl256 := bndD_le p
  generalize bndD p = L at *
  have HTK := Lib.hid (show ∀ k, k < L.length → nbOf (L.take (k + 1)) x = nbOf (L.take k) x ++ endsE x (L.getD k (0, 0)) from fun k hk => by
    rw [List.take_add_one, List.getElem?_eq_getElem hk, List.getD_eq_getElem?_getD, List.getElem?_eq_getElem hk]; exact nbOf_snoc _ _ _)
  have HTL := Lib.hid (show ∀ k, (nbOf (L.take k) x).length ≤ 600 from fun k => by have := nbOf_len x (L.take k); rw [List.length_take] at this; omega)
  have HTA := Lib.hid (show L.take L.length = L from List.take_length)
  generalize hn : L.length = n at *
  have HN := Lib.hid hn
  clear hn
  generalize p.nV = nv at *
  generalize p.nF = nf at *
  go_enter Tryz.func48, Tryz.ntmps48
  go_wp2_with (go_at_call 76; refine (HME.out _ (by repeat (first | exact Below.refl _ _ | refine Below.drew ?_ | refine Below.alloc ?_ (by first | exact Nat.le_refl _ | (simp; done) | (simp; omega) | omega) _ | refine Below.more ?_ (by first | exact Nat.le_refl _ | (simp; done) | (simp; omega) | omega) _ _ | refine Below.setCell ?_ (by first | exact Nat.le_refl _ | (simp; done) | (simp; omega) | omega) _ | assumption))).mono ?_; rintro e wn ⟨vE, AE, rfl, ho, hbn⟩; have HO := Lib.hid ho; have HBN := Lib.hid hbn; obtain ⟨ea, ec, he⟩ := ho.form; rw [HN.out] at he; subst he; clear ho hbn)
  have hs1 := HBN.out.size
  simp at hs1
  have HB0 := Lib.hid (Below.trans (show Below w.heap.size w _ from (by repeat (first | exact Below.refl _ _ | refine Below.drew ?_ | refine Below.alloc ?_ (by first | exact Nat.le_refl _ | (simp; done) | (simp; omega) | omega) _ | refine Below.more ?_ (by first | exact Nat.le_refl _ | (simp; done) | (simp; omega) | omega) _ _ | refine Below.setCell ?_ (by first | exact Nat.le_refl _ | (simp; done) | (simp; omega) | omega) _ | assumption))) (HBN.out.mono (by simp; try omega)))
  have HOW0 : Hid (wn.ownsRow (w.heap.size + 1) 3 1 (.slice (some ⟨w.heap.size + 1, 0, none⟩) 0 0) 0 []) := Lib.hid (own_kept (by
    have hz := World.ownsRow_made (e := 3) (size := 1) (base := w.heap.size + 1) (w.alloc (.cells #[.slice a nv c, .slice a' nf c'] 29)) #[] 0 (by simp) (by decide) (by simp)
    simpa using hz) HBN.out)
  obtain ⟨lo, hlo⟩ : ∃ lo, lo = w.heap.size + 2 := ⟨_, rfl⟩
  obtain ⟨hi, hhi⟩ : ∃ hi, hi = wn.heap.size := ⟨_, rfl⟩
  have HE0 := Lib.hid (show PairsIn wn lo hi (.slice ea n ec) L AE from by rw [hlo, hhi]; simpa using HO.out)
  have HZ0 : Hid (∀ b, (Value.slice (some ⟨w.heap.size + 1, 0, none⟩) 0 0).ownBlock = some b → b < lo ∨ hi ≤ b) := Lib.hid (fun b hb => by simp only [Value.ownBlock, Option.some.injEq] at hb; omega)
  have hhi2 : hi ≤ wn.heap.size := by omega
  have hws : w.heap.size + 1 ≤ wn.heap.size := by omega
  clear hlo hhi HO HBN hs1
  go_loopw [5, 12] (fun out i wr => ∃ (k : Nat), k ≤ n ∧ i = .int .i64 k ∧ Below w.heap.size w wr ∧ wr.ownsRow (w.heap.size + 1) 3 1 out (nbOf (L.take k) x).length ((nbOf (L.take k) x).map (.int .i64)) ∧ PairsIn wr lo hi (.slice ea n ec) L AE ∧ Hid (∀ b, out.ownBlock = some b → b < lo ∨ hi ≤ b) ∧ hi ≤ wr.heap.size ∧ w.heap.size + 1 ≤ wr.heap.size) (fun _ i _ => n - (intOf i).toNat)
  case atStart => exact ⟨0, by omega, rfl, HB0.out, by simpa [nbOf] using HOW0.out, HE0.out, HZ0, hhi2, hws⟩
  case round =>
    clear HB0 HOW0 HE0 HZ0 hhi2 hws
    obtain ⟨k, hk, rfl, hbel, hown, hpe, HZ, hhi, hws⟩ := hrel
    have HBEL := Lib.hid hbel
    have HOWN := Lib.hid hown
    have HPE := Lib.hid hpe
    clear hbel hown hpe
    by_cases hlt : k < n
    · have hk1 : (k : Int) < (n : Int) := by omega
      obtain ⟨g, cap2, u, hv, hu, hg, hus, d0, d1, d2⟩ := HPE.out.read (i := k) (by rw [HN.out]; exact hlt)
      rw [HN.out] at hv
      simp only [Value.slice.injEq] at hv
      obtain ⟨rfl, _, rfl⟩ := hv
      have HTK1 := Lib.hid (HTK.out k hlt)
      have hl6 := HTL.out k
      have hur : lo ≤ u ∧ u < hi := by
        obtain ⟨g2, q2, h1, h2, h3⟩ := HPE.out.pair k (by rw [HN.out]; exact hlt)
        rw [hu] at q2
        simp only [Option.some.injEq, Addr.mk.injEq, and_true] at q2
        subst q2
        exact ⟨h1, h2⟩
      clear hu
      generalize L.getD k (0, 0) = pr at *
      obtain ⟨e1, e2⟩ := pr
      dsimp only at d1 d2
      generalize nbOf (L.take k) x = M at *
      cases b1 : (e1 == x) <;> cases b2 : (e2 == x)
      · have HE := Lib.hid (show nbOf (L.take (k + 1)) x = M from by rw [HTK1.out]; simp at b1 b2; simp [endsE, b1, b2])
        go_wp2
        exact ⟨⟨k + 1, by omega, by go_num, HBEL.out, by rw [HE.out]; exact HOWN.out, HPE.out, HZ, hhi, hws⟩, by simp only [intOf]; omega⟩
      · have HE := Lib.hid (show nbOf (L.take (k + 1)) x = M ++ [e1] from by rw [HTK1.out]; simp at b1 b2; simp [endsE, b1, b2])
        go_wp2_with (at_builtin; go_loud (refine wpList_append_intg _ rfl _ _ rfl (w.heap.size + 1) _ _ _ rfl (own_kept HOWN.out (by repeat (first | exact Below.refl _ _ | refine Below.drew ?_ | refine Below.alloc ?_ (by first | exact Nat.le_refl _ | (simp; done) | (simp; omega) | omega) _ | refine Below.more ?_ (by first | exact Nat.le_refl _ | (simp; done) | (simp; omega) | omega) _ _ | refine Below.setCell ?_ (by first | exact Nat.le_refl _ | (simp; done) | (simp; omega) | omega) _ | assumption))) _ 1 rfl e1 ?a1 (by omega) ?a2 ?_))
        case a1 => simp [go_sem]
        case a2 => first | omega | (simp; omega)
        intro v' w' hp' hg' hloc'
        have HP' := Lib.hid hp'
        have HB' := Lib.hid (Below.grown (Below.trans HBEL.out (show Below w.heap.size wr _ from (by repeat (first | exact Below.refl _ _ | refine Below.drew ?_ | refine Below.alloc ?_ (by first | exact Nat.le_refl _ | (simp; done) | (simp; omega) | omega) _ | refine Below.more ?_ (by first | exact Nat.le_refl _ | (simp; done) | (simp; omega) | omega) _ _ | refine Below.setCell ?_ (by first | exact Nat.le_refl _ | (simp; done) | (simp; omega) | omega) _ | assumption)))) hg' (by first | omega | (simp; omega)) (fun b hb => by have := (own_row HOWN.out b hb).1; omega))
        have HPE' := Lib.hid ((HPE.out.below (show Below wr.heap.size wr _ from (by repeat (first | exact Below.refl _ _ | refine Below.drew ?_ | refine Below.alloc ?_ (by first | exact Nat.le_refl _ | (simp; done) | (simp; omega) | omega) _ | refine Below.more ?_ (by first | exact Nat.le_refl _ | (simp; done) | (simp; omega) | omega) _ _ | refine Below.setCell ?_ (by first | exact Nat.le_refl _ | (simp; done) | (simp; omega) | omega) _ | assumption)))).grown hg' (fun b hb => HZ.out b hb))
        have hhi' : hi ≤ w'.heap.size := Nat.le_trans (by first | omega | (simp; omega)) hg'.size
        have hws' : w.heap.size + 1 ≤ w'.heap.size := Nat.le_trans (by first | omega | (simp; omega)) hg'.size
        have HZ' : Hid (∀ b, v'.ownBlock = some b → b < lo ∨ hi ≤ b) := Lib.hid (fun b hb => by
          rcases hloc' with h | h
          · exact HZ.out b (h ▸ hb)
          · rw [h] at hb; simp at hb; omega)
        have f1 : w'.cell? ⟨u, 0, none⟩ = some (.int .i64 e1) := (World.cell?_of_block (hg'.block u (by simp; omega) (fun e => by have := HZ.out u e.symm; omega))).trans (cell_below (show Below wr.heap.size wr _ from (by repeat (first | exact Below.refl _ _ | refine Below.drew ?_ | refine Below.alloc ?_ (by first | exact Nat.le_refl _ | (simp; done) | (simp; omega) | omega) _ | refine Below.more ?_ (by first | exact Nat.le_refl _ | (simp; done) | (simp; omega) | omega) _ _ | refine Below.setCell ?_ (by first | exact Nat.le_refl _ | (simp; done) | (simp; omega) | omega) _ | assumption))) d1)
        have f2 : w'.cell? ⟨u, 1, none⟩ = some (.int .i64 e2) := (World.cell?_of_block (hg'.block u (by simp; omega) (fun e => by have := HZ.out u e.symm; omega))).trans (cell_below (show Below wr.heap.size wr _ from (by repeat (first | exact Below.refl _ _ | refine Below.drew ?_ | refine Below.alloc ?_ (by first | exact Nat.le_refl _ | (simp; done) | (simp; omega) | omega) _ | refine Below.more ?_ (by first | exact Nat.le_refl _ | (simp; done) | (simp; omega) | omega) _ _ | refine Below.setCell ?_ (by first | exact Nat.le_refl _ | (simp; done) | (simp; omega) | omega) _ | assumption))) d2)
        have husw : u < w'.heap.size := World.block_lt_of_cell? _ _ f1
        clear hp' hg' hloc'
        go_wp2
        refine ⟨⟨k + 1, by omega, by first | rfl | go_num, HB'.out, ?_, HPE'.out, HZ', hhi', hws'⟩, by simp only [intOf]; omega⟩
        rw [HE.out, List.length_append, List.length_singleton, List.map_append]
        exact HP'.out
      · have HE := Lib.hid (show nbOf (L.take (k + 1)) x = M ++ [e2] from by rw [HTK1.out]; simp at b1 b2; simp [endsE, b1, b2])
        go_wp2_with (at_builtin; go_loud (refine wpList_append_intg _ rfl _ _ rfl (w.heap.size + 1) _ _ _ rfl (own_kept HOWN.out (by repeat (first | exact Below.refl _ _ | refine Below.drew ?_ | refine Below.alloc ?_ (by first | exact Nat.le_refl _ | (simp; done) | (simp; omega) | omega) _ | refine Below.more ?_ (by first | exact Nat.le_refl _ | (simp; done) | (simp; omega) | omega) _ _ | refine Below.setCell ?_ (by first | exact Nat.le_refl _ | (simp; done) | (simp; omega) | omega) _ | assumption))) _ 1 rfl e2 ?b1 (by omega) ?b2 ?_))
        case b1 => simp [go_sem]
        case b2 => first | omega | (simp; omega)
        intro v' w' hp' hg' hloc'
        have HP' := Lib.hid hp'
        have HB' := Lib.hid (Below.grown (Below.trans HBEL.out (show Below w.heap.size wr _ from (by repeat (first | exact Below.refl _ _ | refine Below.drew ?_ | refine Below.alloc ?_ (by first | exact Nat.le_refl _ | (simp; done) | (simp; omega) | omega) _ | refine Below.more ?_ (by first | exact Nat.le_refl _ | (simp; done) | (simp; omega) | omega) _ _ | refine Below.setCell ?_ (by first | exact Nat.le_refl _ | (simp; done) | (simp; omega) | omega) _ | assumption)))) hg' (by first | omega | (simp; omega)) (fun b hb => by have := (own_row HOWN.out b hb).1; omega))
        have HPE' := Lib.hid ((HPE.out.below (show Below wr.heap.size wr _ from (by repeat (first | exact Below.refl _ _ | refine Below.drew ?_ | refine Below.alloc ?_ (by first | exact Nat.le_refl _ | (simp; done) | (simp; omega) | omega) _ | refine Below.more ?_ (by first | exact Nat.le_refl _ | (simp; done) | (simp; omega) | omega) _ _ | refine Below.setCell ?_ (by first | exact Nat.le_refl _ | (simp; done) | (simp; omega) | omega) _ | assumption)))).grown hg' (fun b hb => HZ.out b hb))
        have hhi' : hi ≤ w'.heap.size := Nat.le_trans (by first | omega | (simp; omega)) hg'.size
        have hws' : w.heap.size + 1 ≤ w'.heap.size := Nat.le_trans (by first | omega | (simp; omega)) hg'.size
        have HZ' : Hid (∀ b, v'.ownBlock = some b → b < lo ∨ hi ≤ b) := Lib.hid (fun b hb => by
          rcases hloc' with h | h
          · exact HZ.out b (h ▸ hb)
          · rw [h] at hb; simp at hb; omega)
        have f1 : w'.cell? ⟨u, 0, none⟩ = some (.int .i64 e1) := (World.cell?_of_block (hg'.block u (by simp; omega) (fun e => by have := HZ.out u e.symm; omega))).trans (cell_below (show Below wr.heap.size wr _ from (by repeat (first | exact Below.refl _ _ | refine Below.drew ?_ | refine Below.alloc ?_ (by first | exact Nat.le_refl _ | (simp; done) | (simp; omega) | omega) _ | refine Below.more ?_ (by first | exact Nat.le_refl _ | (simp; done) | (simp; omega) | omega) _ _ | refine Below.setCell ?_ (by first | exact Nat.le_refl _ | (simp; done) | (simp; omega) | omega) _ | assumption))) d1)
        have f2 : w'.cell? ⟨u, 1, none⟩ = some (.int .i64 e2) := (World.cell?_of_block (hg'.block u (by simp; omega) (fun e => by have := HZ.out u e.symm; omega))).trans (cell_below (show Below wr.heap.size wr _ from (by repeat (first | exact Below.refl _ _ | refine Below.drew ?_ | refine Below.alloc ?_ (by first | exact Nat.le_refl _ | (simp; done) | (simp; omega) | omega) _ | refine Below.more ?_ (by first | exact Nat.le_refl _ | (simp; done) | (simp; omega) | omega) _ _ | refine Below.setCell ?_ (by first | exact Nat.le_refl _ | (simp; done) | (simp; omega) | omega) _ | assumption))) d2)
        have husw : u < w'.heap.size := World.block_lt_of_cell? _ _ f1
        clear hp' hg' hloc'
        go_wp2
        refine ⟨⟨k + 1, by omega, by first | rfl | go_num, HB'.out, ?_, HPE'.out, HZ', hhi', hws'⟩, by simp only [intOf]; omega⟩
        rw [HE.out, List.length_append, List.length_singleton, List.map_append]
        exact HP'.out
      · have HE := Lib.hid (show nbOf (L.take (k + 1)) x = (M ++ [e2]) ++ [e1] from by rw [HTK1.out]; simp at b1 b2; simp [endsE, b1, b2])
        go_wp2_with (at_builtin; go_loud (refine wpList_append_intg _ rfl _ _ rfl (w.heap.size + 1) _ _ _ rfl (own_kept HOWN.out (by repeat (first | exact Below.refl _ _ | refine Below.drew ?_ | refine Below.alloc ?_ (by first | exact Nat.le_refl _ | (simp; done) | (simp; omega) | omega) _ | refine Below.more ?_ (by first | exact Nat.le_refl _ | (simp; done) | (simp; omega) | omega) _ _ | refine Below.setCell ?_ (by first | exact Nat.le_refl _ | (simp; done) | (simp; omega) | omega) _ | assumption))) _ 1 rfl e2 ?c1 (by omega) ?c2 ?_))
        case c1 => simp [go_sem]
        case c2 => first | omega | (simp; omega)
        intro v' w' hp' hg' hloc'
        have HP' := Lib.hid hp'
        have HB' := Lib.hid (Below.grown (Below.trans HBEL.out (show Below w.heap.size wr _ from (by repeat (first | exact Below.refl _ _ | refine Below.drew ?_ | refine Below.alloc ?_ (by first | exact Nat.le_refl _ | (simp; done) | (simp; omega) | omega) _ | refine Below.more ?_ (by first | exact Nat.le_refl _ | (simp; done) | (simp; omega) | omega) _ _ | refine Below.setCell ?_ (by first | exact Nat.le_refl _ | (simp; done) | (simp; omega) | omega) _ | assumption)))) hg' (by first | omega | (simp; omega)) (fun b hb => by have := (own_row HOWN.out b hb).1; omega))
        have HPE' := Lib.hid ((HPE.out.below (show Below wr.heap.size wr _ from (by repeat (first | exact Below.refl _ _ | refine Below.drew ?_ | refine Below.alloc ?_ (by first | exact Nat.le_refl _ | (simp; done) | (simp; omega) | omega) _ | refine Below.more ?_ (by first | exact Nat.le_refl _ | (simp; done) | (simp; omega) | omega) _ _ | refine Below.setCell ?_ (by first | exact Nat.le_refl _ | (simp; done) | (simp; omega) | omega) _ | assumption)))).grown hg' (fun b hb => HZ.out b hb))
        have hhi' : hi ≤ w'.heap.size := Nat.le_trans (by first | omega | (simp; omega)) hg'.size
        have hws' : w.heap.size + 1 ≤ w'.heap.size := Nat.le_trans (by first | omega | (simp; omega)) hg'.size
        have HZ' : Hid (∀ b, v'.ownBlock = some b → b < lo ∨ hi ≤ b) := Lib.hid (fun b hb => by
          rcases hloc' with h | h
          · exact HZ.out b (h ▸ hb)
          · rw [h] at hb; simp at hb; omega)
        have f1 : w'.cell? ⟨u, 0, none⟩ = some (.int .i64 e1) := (World.cell?_of_block (hg'.block u (by simp; omega) (fun e => by have := HZ.out u e.symm; omega))).trans (cell_below (show Below wr.heap.size wr _ from (by repeat (first | exact Below.refl _ _ | refine Below.drew ?_ | refine Below.alloc ?_ (by first | exact Nat.le_refl _ | (simp; done) | (simp; omega) | omega) _ | refine Below.more ?_ (by first | exact Nat.le_refl _ | (simp; done) | (simp; omega) | omega) _ _ | refine Below.setCell ?_ (by first | exact Nat.le_refl _ | (simp; done) | (simp; omega) | omega) _ | assumption))) d1)
        have f2 : w'.cell? ⟨u, 1, none⟩ = some (.int .i64 e2) := (World.cell?_of_block (hg'.block u (by simp; omega) (fun e => by have := HZ.out u e.symm; omega))).trans (cell_below (show Below wr.heap.size wr _ from (by repeat (first | exact Below.refl _ _ | refine Below.drew ?_ | refine Below.alloc ?_ (by first | exact Nat.le_refl _ | (simp; done) | (simp; omega) | omega) _ | refine Below.more ?_ (by first | exact Nat.le_refl _ | (simp; done) | (simp; omega) | omega) _ _ | refine Below.setCell ?_ (by first | exact Nat.le_refl _ | (simp; done) | (simp; omega) | omega) _ | assumption))) d2)
        have husw : u < w'.heap.size := World.block_lt_of_cell? _ _ f1
        clear hp' hg' hloc'
        have HP2 := Lib.hid (show w'.ownsRow (w.heap.size + 1) 3 1 v' (M ++ [e2]).length ((M ++ [e2]).map (.int .i64)) from by rw [List.length_append, List.length_singleton, List.map_append]; exact HP'.out)
        have hl7 : (M ++ [e2]).length ≤ 1048576 := by rw [List.length_append, List.length_singleton]; omega
        clear HP'
        generalize M ++ [e2] = M2 at *
        go_wp2_with (at_builtin; go_loud (refine wpList_append_intg _ rfl _ _ rfl (w.heap.size + 1) _ _ _ rfl (own_kept HP2.out (by repeat (first | exact Below.refl _ _ | refine Below.drew ?_ | refine Below.alloc ?_ (by first | exact Nat.le_refl _ | (simp; done) | (simp; omega) | omega) _ | refine Below.more ?_ (by first | exact Nat.le_refl _ | (simp; done) | (simp; omega) | omega) _ _ | refine Below.setCell ?_ (by first | exact Nat.le_refl _ | (simp; done) | (simp; omega) | omega) _ | assumption))) _ 1 rfl e1 ?z1 hl7 ?z2 ?_))
        case z1 => simp [go_sem]
        case z2 => first | omega | (simp; omega)
        intro v2 w2 hp2 hg2 hloc2
        have HP2' := Lib.hid hp2
        have HB2' := Lib.hid (Below.grown (HB'.out.trans (show Below w.heap.size w' _ from (by repeat (first | exact Below.refl _ _ | refine Below.drew ?_ | refine Below.alloc ?_ (by first | exact Nat.le_refl _ | (simp; done) | (simp; omega) | omega) _ | refine Below.more ?_ (by first | exact Nat.le_refl _ | (simp; done) | (simp; omega) | omega) _ _ | refine Below.setCell ?_ (by first | exact Nat.le_refl _ | (simp; done) | (simp; omega) | omega) _ | assumption)))) hg2 (by first | omega | (simp; omega)) (fun b hb => by have := (own_row HP2.out b hb).1; omega))
        have HPE2 := Lib.hid ((HPE'.out.below (show Below w'.heap.size w' _ from (by repeat (first | exact Below.refl _ _ | refine Below.drew ?_ | refine Below.alloc ?_ (by first | exact Nat.le_refl _ | (simp; done) | (simp; omega) | omega) _ | refine Below.more ?_ (by first | exact Nat.le_refl _ | (simp; done) | (simp; omega) | omega) _ _ | refine Below.setCell ?_ (by first | exact Nat.le_refl _ | (simp; done) | (simp; omega) | omega) _ | assumption)))).grown hg2 (fun b hb => HZ'.out b hb))
        have hhi2 : hi ≤ w2.heap.size := Nat.le_trans (by first | omega | (simp; omega)) hg2.size
        have hws2 : w.heap.size + 1 ≤ w2.heap.size := Nat.le_trans (by first | omega | (simp; omega)) hg2.size
        have HZ2 : Hid (∀ b, v2.ownBlock = some b → b < lo ∨ hi ≤ b) := Lib.hid (fun b hb => by
          rcases hloc2 with h | h
          · exact HZ'.out b (h ▸ hb)
          · rw [h] at hb; simp at hb; omega)
        clear hp2 hg2 hloc2
        go_wp2
        refine ⟨⟨k + 1, by omega, by first | rfl | go_num, HB2'.out, ?_, HPE2.out, HZ2, hhi2, hws2⟩, by simp only [intOf]; omega⟩
        rw [HE.out, List.length_append, List.length_singleton, List.map_append]
        exact HP2'.out
    · have hk1 : ¬ (k : Int) < (n : Int) := by omega
      have hkn : k = n := by omega
      have HOW := Lib.hid (show wr.ownsRow (w.heap.size + 1) 3 1 u5 (nbOf L x).length ((nbOf L x).map (.int .i64)) from by have h := HOWN.out; rw [hkn, HTA.out] at h; exact h)
      clear hkn HOWN
      go_wp2
      go_ret
      exact gives_ints HOW.out HBEL.out (Nat.le_succ _)
set_option maxRecDepth 100000 in
theorem l07Times_c (x y z n : Int) (w : World) (hx : In64 (x * n)) (hy : In64 (y * n)) (hz : In64 (z * n)) :
    Calls Tryz.prog 51 #[vecV x y z, .int .i64 n] w fun e w' => e = .returned (vecV (x * n) (y * n) (z * n)) ∧ Below w.heap.size w w' := by
  have w0 : IntKind.i64.wrap (x * n) = x * n := IntWalk.i64_in _ hx
  have w1 : IntKind.i64.wrap (y * n) = y * n := IntWalk.i64_in _ hy
  have w2 : IntKind.i64.wrap (z * n) = z * n := IntWalk.i64_in _ hz
  go_enter Tryz.func51, Tryz.ntmps51
  go_wp2
  exact bodyPost_ret (v := vecV (x * n) (y * n) (z * n)) (by simp [results, Tryz.results51, go_sem]) rfl ⟨rfl, (by repeat (first | exact Below.refl _ _ | refine Below.drew ?_ | refine Below.alloc ?_ (by first | exact Nat.le_refl _ | (simp; done) | (simp; omega) | omega) _ | refine Below.more ?_ (by first | exact Nat.le_refl _ | (simp; done) | (simp; omega) | omega) _ _ | refine Below.setCell ?_ (by first | exact Nat.le_refl _ | (simp; done) | (simp; omega) | omega) _ | assumption))⟩
end Go.Proofs.YtpfmcobkfofbjaaGreat
