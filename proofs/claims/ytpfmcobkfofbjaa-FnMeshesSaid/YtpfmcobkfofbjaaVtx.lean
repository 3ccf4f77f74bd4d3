/- Vtx, with Neighbors ahead of it. -/
import Derived.Test.YtpfmcobkfofbjaaEdgesS
import Derived.Test.YtpfmcobkfofbjaaShelf
import Derived.Sort.OwnSortedInts
import Derived.Test.YtpfmcobkfofbjaaEdgePoint
import Derived.Test.YtpfmcobkfofbjaaVertexFacesS
namespace Go.Proofs.Ytpfmcobkfofbjaa
open Go Go.RowKit Go.Maps Go.Sort
def sortI (l : List Int) : List Int := l.mergeSort fun x y => decide (x ≤ y)
theorem mem_sortI {l : List Int} {x : Int} : x ∈ sortI l ↔ x ∈ l := List.mem_mergeSort
theorem len_sortI (l : List Int) : (sortI l).length = l.length := List.length_mergeSort _
theorem sorted_sortI {l : List Int} (h : l.Nodup) : (sortI l).Pairwise fun x y => x < y := by
  have h1 : (sortI l).Pairwise fun x y => decide (x ≤ y) = true := List.pairwise_mergeSort (fun a b c hab hbc => by
      simp only [decide_eq_true_eq] at *; omega) (fun a b => by
      simp only [Bool.or_eq_true, decide_eq_true_eq]; omega) l
  have h2 : (sortI l).Nodup := (List.mergeSort_perm l _).nodup_iff.2 h
  refine (h1.and h2).imp fun {a b} ⟨h3, h4⟩ => ?_
  simp only [decide_eq_true_eq] at h3
  omega
/-- The other end of an edge at v. -/
def endsE (v : Int) (e : Int × Int) : List Int := (if e.1 = v then [e.2] else []) ++ (if e.2 = v then [e.1] else [])
def nbOf (L : List (Int × Int)) (v : Int) : List Int := L.flatMap (endsE v)
theorem nbOf_snoc (L : List (Int × Int)) (e : Int × Int) (v : Int) : nbOf (L ++ [e]) v = nbOf L v ++ endsE v e := by simp [nbOf]
theorem endsE_len (v : Int) (e : Int × Int) : (endsE v e).length ≤ 2 := by unfold endsE; split <;> split <;> simp
theorem nbOf_len (v : Int) : ∀ L : List (Int × Int), (nbOf L v).length ≤ 2 * L.length
  | [] => by simp [nbOf]
  | e :: L => by
    have h1 := nbOf_len v L
    have h2 := endsE_len v e
    simp only [nbOf, List.flatMap_cons, List.length_append, List.length_cons] at *
    omega
/-- The edges of a mesh: the smaller end ahead. -/
def Ups (L : List (Int × Int)) : Prop := ∀ e ∈ L, e.1 < e.2
theorem mem_ends {v y : Int} {e : Int × Int} (h : e.1 < e.2) : y ∈ endsE v e ↔ und (v, y) = e ∧ y ≠ v := by
  obtain ⟨a, b⟩ := e
  dsimp only at h
  unfold endsE und
  by_cases h1 : a = v <;> by_cases h2 : b = v <;> simp [h1, h2, Prod.ext_iff] <;> omega
theorem nodup_ends {v : Int} {e : Int × Int} (h : e.1 < e.2) : (endsE v e).Nodup := by
  obtain ⟨a, b⟩ := e
  dsimp only at h
  unfold endsE
  by_cases h1 : a = v <;> by_cases h2 : b = v <;> simp [h1, h2] <;> omega
theorem mem_nb {v y : Int} : ∀ {L : List (Int × Int)}, Ups L → (y ∈ nbOf L v ↔ und (v, y) ∈ L ∧ y ≠ v)
  | [], _ => by simp [nbOf]
  | e :: L, h => by
    have h1 := mem_nb (v := v) (y := y) (L := L) (fun x hx => h x (by simp [hx]))
    have h2 := mem_ends (v := v) (y := y) (h e (by simp))
    simp only [nbOf, List.flatMap_cons, List.mem_append, List.mem_cons] at *
    rw [h1, h2]
    constructor
    · rintro (⟨h3, h4⟩ | ⟨h3, h4⟩)
      · exact ⟨.inl h3, h4⟩
      · exact ⟨.inr h3, h4⟩
    · rintro ⟨h3 | h3, h4⟩
      · exact .inl ⟨h3, h4⟩
      · exact .inr ⟨h3, h4⟩
theorem nodup_nb {v : Int} : ∀ {L : List (Int × Int)}, L.Nodup → Ups L → (nbOf L v).Nodup
  | [], _, _ => by simp [nbOf]
  | e :: L, hn, h => by
    obtain ⟨h1, h2⟩ := List.nodup_cons.1 hn
    have hu : Ups L := fun x hx => h x (by simp [hx])
    have h3 := nodup_nb (v := v) h2 hu
    show (endsE v e ++ nbOf L v).Nodup
    refine List.nodup_append.2 ⟨nodup_ends (h e (by simp)), h3, fun x hx y hy e2 => ?_⟩
    subst e2
    have h4 := (mem_ends (h e (by simp))).1 hx
    have h5 := (mem_nb hu).1 hy
    rw [h4.1] at h5
    exact h1 h5.1
/-- As the reference lists them. -/
def putEnds (v : Int) (l : List (Int × Int)) (e : Int × Int) : List (Int × Int) :=
  let l1 := if e.1 = v then putE l (e.2, 0) else l
  if e.2 = v then putE l1 (e.1, 0) else l1
def nbPut (L : List (Int × Int)) (v : Int) : List (Int × Int) := L.foldl (putEnds v) []
theorem nbPut_snoc (L : List (Int × Int)) (e : Int × Int) (v : Int) : nbPut (L ++ [e]) v = putEnds v (nbPut L v) e := by simp [nbPut]
theorem putEnds_len (v : Int) (l : List (Int × Int)) (e : Int × Int) : (putEnds v l e).length ≤ l.length + 2 := by
  unfold putEnds
  have h1 := putE_len l (e.2, 0)
  have h2 := putE_len l (e.1, 0)
  have h3 := putE_len (putE l (e.2, 0)) (e.1, 0)
  dsimp only
  split <;> split <;> omega
theorem putEnds_ok {v : Int} {l : List (Int × Int)} {e : Int × Int} (h : SortedE l) : SortedE (putEnds v l e) ∧ ∀ p, p ∈ putEnds v l e ↔ (p.2 = 0 ∧ p.1 ∈ endsE v e) ∨ p ∈ l := by
  obtain ⟨a, b⟩ := e
  unfold putEnds endsE
  dsimp only
  refine ⟨?_, fun p => ?_⟩
  · split <;> split
    · exact sorted_putE (sorted_putE h)
    · exact sorted_putE h
    · exact sorted_putE h
    · exact h
  · obtain ⟨x, y⟩ := p
    by_cases h1 : a = v <;> by_cases h2 : b = v <;> simp [h1, h2, mem_putE] <;> grind
theorem revInd {α : Type} {P : List α → Prop} (h0 : P []) (h1 : ∀ l x, P l → P (l ++ [x])) (l : List α) : P l := by
  rw [← List.reverse_reverse l]
  induction l.reverse with
  | nil => exact h0
  | cons x t ih => rw [List.reverse_cons]; exact h1 _ _ ih
theorem nbPut_ok (v : Int) (L : List (Int × Int)) : SortedE (nbPut L v) ∧ ∀ p, p ∈ nbPut L v ↔ p.2 = 0 ∧ p.1 ∈ nbOf L v := by
  refine revInd (P := fun L => SortedE (nbPut L v) ∧ ∀ p, p ∈ nbPut L v ↔ p.2 = 0 ∧ p.1 ∈ nbOf L v) ?_ ?_ L
  · exact ⟨List.Pairwise.nil, fun p => by simp [nbPut, nbOf]⟩
  · intro l e ⟨h1, h2⟩
    obtain ⟨h3, h4⟩ := putEnds_ok (v := v) (e := e) h1
    rw [nbPut_snoc, nbOf_snoc]
    refine ⟨h3, fun p => ?_⟩
    rw [h4, h2, List.mem_append]
    constructor
    · rintro (⟨h5, h6⟩ | ⟨h5, h6⟩)
      · exact ⟨h5, .inr h6⟩
      · exact ⟨h5, .inl h6⟩
    · rintro ⟨h5, h6 | h6⟩
      · exact .inr ⟨h5, h6⟩
      · exact .inl ⟨h5, h6⟩
theorem nbPut_len (v : Int) (L : List (Int × Int)) : (nbPut L v).length ≤ 2 * L.length := by
  refine revInd (P := fun L => (nbPut L v).length ≤ 2 * L.length) (by simp [nbPut]) (fun l e h => ?_) L
  rw [nbPut_snoc, List.length_append, List.length_singleton]
  have := putEnds_len v (nbPut l v) e
  omega
theorem nb_eq {L : List (Int × Int)} {v : Int} (hn : L.Nodup) (hu : Ups L) : (nbPut L v).map (·.1) = sortI (nbOf L v) := by
  have h1 := nodup_nb (v := v) hn hu
  have h2 := sorted_sortI h1
  have h3 : SortedE ((sortI (nbOf L v)).map fun x => (x, (0 : Int))) := by
    refine List.Pairwise.map _ (fun a b h => ?_) h2
    rw [ltE_iff]; exact .inl h
  obtain ⟨h4, h5⟩ := nbPut_ok v L
  have h6 : nbPut L v = (sortI (nbOf L v)).map fun x => (x, (0 : Int)) := sortedE_eq h4 h3 fun p => by
    rw [h5, List.mem_map]
    constructor
    · rintro ⟨h7, h8⟩
      exact ⟨p.1, mem_sortI.2 h8, by rw [← h7]⟩
    · rintro ⟨x, h7, rfl⟩
      exact ⟨rfl, mem_sortI.1 h7⟩
  rw [h6, List.map_map]
  simp [Function.comp_def]
theorem ups_edges {p : MeshD} (hok : meshOk p) : Ups (edgesL p.faces p.nF) := fun e he => by
  obtain ⟨i, j, hi, hj, rfl⟩ := mem_edgesL he
  obtain ⟨h4, _, hd⟩ := hok.2.2.2.1 i hi
  have hne : (stepAt (faceAt p.faces i) j).1 ≠ (stepAt (faceAt p.faces i) j).2 := by
    simp only [stepAt]
    have hm : (j + 1) % (faceAt p.faces i).length < (faceAt p.faces i).length := Nat.mod_lt _ (by omega)
    by_cases hlt : j < (j + 1) % (faceAt p.faces i).length
    · exact hd _ _ hlt hm
    · refine (hd _ _ (show (j + 1) % (faceAt p.faces i).length < j from ?_) (by omega)).symm
      rw [h4] at hlt ⊢
      omega
  generalize stepAt (faceAt p.faces i) j = q at *
  obtain ⟨x, y⟩ := q
  simp only [und]
  dsimp only at hne
  omega
theorem ups_edgesD (p : MeshD) : Ups (edgesD p) ∧ (edgesD p).Nodup := by
  unfold edgesD
  split
  · have hok := meshOkB_true.1 (by assumption)
    exact ⟨ups_edges hok, sortedE_nodup (edges_ok _ _).1⟩
  · exact ⟨fun e h => (by cases h), List.nodup_nil⟩
noncomputable def nbD (p : MeshD) (v : Int) : List Int := sortI (nbOf (edgesD p) v)
theorem nbD_le (p : MeshD) (v : Int) : (nbD p v).length ≤ 1048576 := by
  unfold nbD
  rw [len_sortI]
  have := nbOf_len v (edgesD p)
  have := edgesD_le p
  omega
/-- The library's sort, on a row of integers of one's own. -/
theorem sortInts_c (base : Nat) (v : Value) (zs : List Int) (w : World) (ho : w.ownsRow base 3 1 v zs.length (zs.map (.int .i64))) (hn : zs.length ≤ 1048576) :
    Calls Try.prog 61 #[v] w fun e w' => e = .returned (.tuple #[]) ∧ w'.ownsRow base 3 1 v zs.length ((sortI zs).map (.int .i64)) ∧ w.grownBy w' v.ownBlock := by
  have nil : ∀ (p : Option Addr) (cap : Nat), v = .slice p 0 cap → zs.length = 0 → Calls Try.prog 61 #[v] w fun e w' => e = .returned (.tuple #[]) ∧ w'.ownsRow base 3 1 v zs.length ((sortI zs).map (.int .i64)) ∧ w.grownBy w' v.ownBlock := by
    intro p cap hv h0
    have hL : sortI zs = zs := by obtain rfl := List.length_eq_zero_iff.1 h0; exact List.mergeSort_nil
    subst hv
    refine (Try.slices_Sort_int_none p cap w).mono ?_
    rintro e w' ⟨rfl, rfl⟩
    exact ⟨rfl, by rw [hL]; exact ho, ⟨rfl, rfl, rfl, Nat.le_refl _, fun _ _ _ => rfl⟩⟩
  rcases ho.2 with ⟨rfl, h0⟩ | ⟨g, cap, cur, rfl, hb, hg, hnc, hcm, hcs, ht⟩
  · exact nil none 0 rfl h0
  · by_cases h0 : zs.length = 0
    · exact nil (some ⟨g, 0, none⟩) cap (by rw [h0]) h0
    have hH : Holds (Value.int .i64) w g 0 zs.toArray := holds_of_blockI hg (by rw [Nat.mul_one] at ht; exact ht)
    refine (Try.slices_Sort_int g 0 cap zs w hH (Array.getElem?_eq_some_iff.1 hg).1 (by omega)).mono ?_
    rintro e w' ⟨rfl, n, os, rfl⟩
    exact ⟨rfl, ownsRow_sortedI (n := n) (os := os) (ts := sortI zs) (len_sortI zs) hb hg hnc hcm hcs, grownBy_sortedI _⟩
set_option maxRecDepth 100000 in
set_option maxHeartbeats 1000000 in
theorem impl_neighbors_c (u : Value) (L : List (Int × Int)) (x : Int) (base : Nat) (w : World) (ho : w.ownsRow base 55 2 u L.length (edgeVals L)) (hl : L.length ≤ 1000) :
    Calls Try.prog 45 #[u, .int .i64 x] w (Gives w 1 (sortI (nbOf L x)).length (intAt (sortI (nbOf L x)))) := by
  have HX := Lib.hid (show Sl w (match u with | .slice a _ _ => a | _ => none) 2 L.length (edgeAt L) from by
    obtain ⟨a, cap, rfl, h⟩ := ow_of_ownsRow ho (flat_get (s := 2) (n := L.length) (C := edgeAt L) (fun _ _ => rfl))
    exact h.sl)
  obtain ⟨a, cap, rfl⟩ := own_slice ho
  dsimp only at HX
  clear ho
  have HTK := Lib.hid (show ∀ k, k < L.length → nbOf (L.take (k + 1)) x = nbOf (L.take k) x ++ endsE x (L.getD k (0, 0)) from fun k hk => by
    rw [List.take_add_one, List.getElem?_eq_getElem hk, List.getD_eq_getElem?_getD, List.getElem?_eq_getElem hk]; exact nbOf_snoc _ _ _)
  have HTL := Lib.hid (show ∀ k, (nbOf (L.take k) x).length ≤ 2000 from fun k => by have := nbOf_len x (L.take k); rw [List.length_take] at this; omega)
  have HTA := Lib.hid (show L.take L.length = L from List.take_length)
  generalize hn : L.length = n at *
  have HN := Lib.hid hn
  clear hn
  go_enter Try.func45, Try.ntmps45
  go_wp2
  go_loopw [5, 11] (fun out i wr => ∃ (k : Nat), k ≤ n ∧ i = .int .i64 k ∧ Below w.heap.size w wr ∧ wr.ownsRow w.heap.size 3 1 out (nbOf (L.take k) x).length ((nbOf (L.take k) x).map (.int .i64))) (fun _ i _ => n - (intOf i).toNat)
  case atStart =>
    refine ⟨0, Nat.zero_le _, rfl, (by repeat (first | exact Below.refl _ _ | refine Below.drew ?_ | refine Below.alloc ?_ (by first | exact Nat.le_refl _ | (simp; done) | (simp; omega) | omega) _ | refine Below.more ?_ (by first | exact Nat.le_refl _ | (simp; done) | (simp; omega) | omega) _ _ | refine Below.setCell ?_ (by first | exact Nat.le_refl _ | (simp; done) | (simp; omega) | omega) _ | assumption)), ?_⟩
    have hz := World.ownsRow_made (e := 3) (size := 1) (base := w.heap.size) w #[] 0 (by simp) (by decide) (by simp)
    simpa [nbOf] using hz
  case round =>
    obtain ⟨k, hk, rfl, hbel, hown⟩ := hrel
    have HBEL := Lib.hid hbel
    have HOWN := Lib.hid hown
    have hbs := hbel.size
    clear hbel hown
    by_cases hlt : k < n
    · have hk1 : (k : Int) < (n : Int) := by omega
      obtain ⟨b, o, rfl, hb, hc⟩ := HX.out.below HBEL.out (by omega)
      have c0 : wr.cell? ⟨b, o + k * 2, none⟩ = some (.int .i64 (L.getD k (0, 0)).1) := hc k hlt 0 (by omega)
      have c1 : wr.cell? ⟨b, o + k * 2 + 1, none⟩ = some (.int .i64 (L.getD k (0, 0)).2) := hc k hlt 1 (by omega)
      clear hc
      have HST := Lib.hid (HTK.out k hlt)
      have hlen := HTL.out k
      generalize L.getD k (0, 0) = p at *
      obtain ⟨e1, e2⟩ := p
      dsimp only at c0 c1
      generalize nbOf (L.take k) x = M at *
      cases b1 : (e1 == x) <;> cases b2 : (e2 == x)
      · have HE := Lib.hid (show nbOf (L.take (k + 1)) x = M from by rw [HST.out]; simp at b1 b2; simp [endsE, b1, b2])
        go_wp2
        exact ⟨⟨k + 1, by omega, by go_num, Below.trans HBEL.out (by repeat (first | exact Below.refl _ _ | refine Below.drew ?_ | refine Below.alloc ?_ (by first | exact Nat.le_refl _ | (simp; done) | (simp; omega) | omega) _ | refine Below.more ?_ (by first | exact Nat.le_refl _ | (simp; done) | (simp; omega) | omega) _ _ | refine Below.setCell ?_ (by first | exact Nat.le_refl _ | (simp; done) | (simp; omega) | omega) _ | assumption)), by rw [HE.out]; exact own_kept HOWN.out (by repeat (first | exact Below.refl _ _ | refine Below.drew ?_ | refine Below.alloc ?_ (by first | exact Nat.le_refl _ | (simp; done) | (simp; omega) | omega) _ | refine Below.more ?_ (by first | exact Nat.le_refl _ | (simp; done) | (simp; omega) | omega) _ _ | refine Below.setCell ?_ (by first | exact Nat.le_refl _ | (simp; done) | (simp; omega) | omega) _ | assumption))⟩, by simp only [intOf]; omega⟩
      · have HE := Lib.hid (show nbOf (L.take (k + 1)) x = M ++ [e1] from by rw [HST.out]; simp at b1 b2; simp [endsE, b1, b2])
        go_wp2_with (at_builtin; go_loud (refine wpList_append_int _ rfl _ _ rfl w.heap.size _ _ _ rfl (own_kept HOWN.out (by repeat (first | exact Below.refl _ _ | refine Below.drew ?_ | refine Below.alloc ?_ (by first | exact Nat.le_refl _ | (simp; done) | (simp; omega) | omega) _ | refine Below.more ?_ (by first | exact Nat.le_refl _ | (simp; done) | (simp; omega) | omega) _ _ | refine Below.setCell ?_ (by first | exact Nat.le_refl _ | (simp; done) | (simp; omega) | omega) _ | assumption))) _ 1 rfl e1 ?r1 (by omega) ?r2 ?_))
        case r1 => simp [go_sem]
        case r2 => first | omega | (simp; omega)
        intro v' w' hp' hb'
        have HP' := Lib.hid hp'
        have HB' := Lib.hid (Below.trans (show Below w.heap.size wr _ from (by repeat (first | exact Below.refl _ _ | refine Below.drew ?_ | refine Below.alloc ?_ (by first | exact Nat.le_refl _ | (simp; done) | (simp; omega) | omega) _ | refine Below.more ?_ (by first | exact Nat.le_refl _ | (simp; done) | (simp; omega) | omega) _ _ | refine Below.setCell ?_ (by first | exact Nat.le_refl _ | (simp; done) | (simp; omega) | omega) _ | assumption))) hb')
        clear hp' hb'
        go_wp2
        refine ⟨⟨k + 1, by omega, by first | rfl | go_num, Below.trans HBEL.out HB'.out, ?_⟩, by simp only [intOf]; omega⟩
        rw [HE.out, List.length_append, List.length_singleton, List.map_append]
        exact HP'.out
      · have HE := Lib.hid (show nbOf (L.take (k + 1)) x = M ++ [e2] from by rw [HST.out]; simp at b1 b2; simp [endsE, b1, b2])
        go_wp2_with (at_builtin; go_loud (refine wpList_append_intg _ rfl _ _ rfl w.heap.size _ _ _ rfl (own_kept HOWN.out (by repeat (first | exact Below.refl _ _ | refine Below.drew ?_ | refine Below.alloc ?_ (by first | exact Nat.le_refl _ | (simp; done) | (simp; omega) | omega) _ | refine Below.more ?_ (by first | exact Nat.le_refl _ | (simp; done) | (simp; omega) | omega) _ _ | refine Below.setCell ?_ (by first | exact Nat.le_refl _ | (simp; done) | (simp; omega) | omega) _ | assumption))) _ 1 rfl e2 ?s1 (by omega) ?s2 ?_))
        case s1 => simp [go_sem]
        case s2 => first | omega | (simp; omega)
        intro v' w' hp' hg' hloc'
        have HP' := Lib.hid hp'
        have hne : u5.ownBlock ≠ some wr.heap.size := fun e => by
          obtain ⟨_, c2, fz2, hc2⟩ := own_row HOWN.out _ e
          exact absurd (Array.getElem?_eq_some_iff.1 hc2).1 (Nat.lt_irrefl _)
        have t0 : w'.cell? ⟨wr.heap.size, 0, none⟩ = some (.int .i64 e1) := (World.cell?_of_block (hg'.block _ (by simp; try omega) (fun e => hne e.symm))).trans (by simp [go_sem])
        have t1 : w'.cell? ⟨wr.heap.size, 1, none⟩ = some (.int .i64 e2) := (World.cell?_of_block (hg'.block _ (by simp; try omega) (fun e => hne e.symm))).trans (by simp [go_sem])
        have HB' := Lib.hid (Below.grown (Below.trans HBEL.out (show Below w.heap.size wr _ from (by repeat (first | exact Below.refl _ _ | refine Below.drew ?_ | refine Below.alloc ?_ (by first | exact Nat.le_refl _ | (simp; done) | (simp; omega) | omega) _ | refine Below.more ?_ (by first | exact Nat.le_refl _ | (simp; done) | (simp; omega) | omega) _ _ | refine Below.setCell ?_ (by first | exact Nat.le_refl _ | (simp; done) | (simp; omega) | omega) _ | assumption)))) hg' (by first | omega | (simp; omega)) (fun b hb => (own_row HOWN.out b hb).1))
        have hws := HB'.out.size
        have hwr : wr.heap.size < w'.heap.size := World.block_lt_of_cell? _ _ t0
        clear hp' hg' hloc' hne
        go_wp2
        refine ⟨⟨k + 1, by omega, by first | rfl | go_num, HB'.out, ?_⟩, by simp only [intOf]; omega⟩
        rw [HE.out, List.length_append, List.length_singleton, List.map_append]
        exact HP'.out
      · have HE := Lib.hid (show nbOf (L.take (k + 1)) x = (M ++ [e2]) ++ [e1] from by rw [HST.out]; simp at b1 b2; simp [endsE, b1, b2])
        go_wp2_with (at_builtin; go_loud (refine wpList_append_intg _ rfl _ _ rfl w.heap.size _ _ _ rfl (own_kept HOWN.out (by repeat (first | exact Below.refl _ _ | refine Below.drew ?_ | refine Below.alloc ?_ (by first | exact Nat.le_refl _ | (simp; done) | (simp; omega) | omega) _ | refine Below.more ?_ (by first | exact Nat.le_refl _ | (simp; done) | (simp; omega) | omega) _ _ | refine Below.setCell ?_ (by first | exact Nat.le_refl _ | (simp; done) | (simp; omega) | omega) _ | assumption))) _ 1 rfl e2 ?q1 (by omega) ?q2 ?_))
        case q1 => simp [go_sem]
        case q2 => first | omega | (simp; omega)
        intro v' w' hp' hg' hloc'
        have HP' := Lib.hid hp'
        have hne : u5.ownBlock ≠ some wr.heap.size := fun e => by
          obtain ⟨_, c2, fz2, hc2⟩ := own_row HOWN.out _ e
          exact absurd (Array.getElem?_eq_some_iff.1 hc2).1 (Nat.lt_irrefl _)
        have t0 : w'.cell? ⟨wr.heap.size, 0, none⟩ = some (.int .i64 e1) := (World.cell?_of_block (hg'.block _ (by simp; try omega) (fun e => hne e.symm))).trans (by simp [go_sem])
        have t1 : w'.cell? ⟨wr.heap.size, 1, none⟩ = some (.int .i64 e2) := (World.cell?_of_block (hg'.block _ (by simp; try omega) (fun e => hne e.symm))).trans (by simp [go_sem])
        have HB' := Lib.hid (Below.grown (Below.trans HBEL.out (show Below w.heap.size wr _ from (by repeat (first | exact Below.refl _ _ | refine Below.drew ?_ | refine Below.alloc ?_ (by first | exact Nat.le_refl _ | (simp; done) | (simp; omega) | omega) _ | refine Below.more ?_ (by first | exact Nat.le_refl _ | (simp; done) | (simp; omega) | omega) _ _ | refine Below.setCell ?_ (by first | exact Nat.le_refl _ | (simp; done) | (simp; omega) | omega) _ | assumption)))) hg' (by first | omega | (simp; omega)) (fun b hb => (own_row HOWN.out b hb).1))
        have hws := HB'.out.size
        have hwr : wr.heap.size < w'.heap.size := World.block_lt_of_cell? _ _ t0
        clear hp' hg' hloc' hne
        have HP2 := Lib.hid (show w'.ownsRow w.heap.size 3 1 v' (M ++ [e2]).length ((M ++ [e2]).map (.int .i64)) from by rw [List.length_append, List.length_singleton, List.map_append]; exact HP'.out)
        have hl2 : (M ++ [e2]).length ≤ 1048576 := by rw [List.length_append, List.length_singleton]; omega
        clear HP'
        generalize M ++ [e2] = M2 at *
        go_wp2_with (at_builtin; go_loud (refine wpList_append_int _ rfl _ _ rfl w.heap.size _ _ _ rfl (own_kept HP2.out (by repeat (first | exact Below.refl _ _ | refine Below.drew ?_ | refine Below.alloc ?_ (by first | exact Nat.le_refl _ | (simp; done) | (simp; omega) | omega) _ | refine Below.more ?_ (by first | exact Nat.le_refl _ | (simp; done) | (simp; omega) | omega) _ _ | refine Below.setCell ?_ (by first | exact Nat.le_refl _ | (simp; done) | (simp; omega) | omega) _ | assumption))) _ 1 rfl e1 ?z1 hl2 ?z2 ?_))
        case z1 => simp [go_sem]
        case z2 => first | omega | (simp; omega)
        intro v2 w2 hp2 hb2
        have HP2' := Lib.hid hp2
        have HB2' := Lib.hid (Below.trans HB'.out (Below.trans (show Below w.heap.size w' _ from (by repeat (first | exact Below.refl _ _ | refine Below.drew ?_ | refine Below.alloc ?_ (by first | exact Nat.le_refl _ | (simp; done) | (simp; omega) | omega) _ | refine Below.more ?_ (by first | exact Nat.le_refl _ | (simp; done) | (simp; omega) | omega) _ _ | refine Below.setCell ?_ (by first | exact Nat.le_refl _ | (simp; done) | (simp; omega) | omega) _ | assumption))) hb2))
        clear hp2 hb2
        go_wp2
        refine ⟨⟨k + 1, by omega, by first | rfl | go_num, HB2'.out, ?_⟩, by simp only [intOf]; omega⟩
        rw [HE.out, List.length_append, List.length_singleton, List.map_append]
        exact HP2'.out
    · have hk1 : ¬ (k : Int) < (n : Int) := by omega
      have hkn : k = n := by omega
      have HOW := Lib.hid (show wr.ownsRow w.heap.size 3 1 u5 (nbOf L x).length ((nbOf L x).map (.int .i64)) from by have h := HOWN.out; rw [hkn, HTA.out] at h; exact h)
      have hlen : (nbOf L x).length ≤ 1048576 := by have := HTL.out n; rw [HTA.out] at this; omega
      have HLS := Lib.hid (len_sortI (nbOf L x))
      clear hkn HOWN
      generalize nbOf L x = M at *
      go_wp2_with (go_at_call 61; refine (sortInts_c w.heap.size _ M _ HOW.out hlen).mono ?_; rintro e w1 ⟨rfl, ho1, hg1⟩; have HO1 := Lib.hid ho1; have HG1 := Lib.hid hg1; clear ho1 hg1)
      go_ret
      refine gives_ints (ts := sortI M) ?_ (Below.grown HBEL.out HG1.out HBEL.out.size (fun g e => (own_row HOW.out g e).1)) (Nat.le_refl _)
      rw [HLS.out]
      exact HO1.out
end Go.Proofs.Ytpfmcobkfofbjaa
namespace Go.Proofs.Ytpfmcobkfofbjaa
open Go Go.RowKit
theorem mul_bd {x k A B : Int} (hx : -A ≤ x ∧ x ≤ A) (hk : -B ≤ k ∧ k ≤ B) : -(A * B) ≤ x * k ∧ x * k ≤ A * B := by
  have h1 : x.natAbs * k.natAbs ≤ A.natAbs * B.natAbs := Nat.mul_le_mul (by omega) (by omega)
  rw [← Int.natAbs_mul, ← Int.natAbs_mul] at h1
  have h2 : 0 ≤ A * B := Int.mul_nonneg (by omega) (by omega)
  generalize x * k = y at *
  generalize A * B = C at *
  omega
def sumG (g : VecD → Int) (p : MeshD) (l : List Int) : Int := (l.map fun x => g (vtx p x)).sum
def sumH (g : VecD → Int) (p : MeshD) (l : List Int) : Int := (l.map fun x => g (fpD p x)).sum
theorem sumG_snoc (g : VecD → Int) (p : MeshD) (l : List Int) (x : Int) : sumG g p (l ++ [x]) = sumG g p l + g (vtx p x) := by simp [sumG]
theorem sumH_snoc (g : VecD → Int) (p : MeshD) (l : List Int) (x : Int) : sumH g p (l ++ [x]) = sumH g p l + g (fpD p x) := by simp [sumH]
theorem sum_perm {l m : List Int} (h : l.Perm m) : l.sum = m.sum := by
  induction h with
  | nil => rfl
  | cons x _ ih => simp [ih]
  | swap x y l => simp only [List.sum_cons]; omega
  | trans _ _ h1 h2 => rw [h1, h2]
theorem sumG_sort (g : VecD → Int) (p : MeshD) (l : List Int) : sumG g p (sortI l) = sumG g p l := sum_perm ((List.mergeSort_perm l _).map _)
theorem sum_bd {α : Type} {f : α → Int} {B : Int} : ∀ {l : List α}, (∀ x ∈ l, -B ≤ f x ∧ f x ≤ B) → -(B * l.length) ≤ (l.map f).sum ∧ (l.map f).sum ≤ B * l.length
  | [], _ => by simp
  | x :: l, h => by
    have h1 := sum_bd (l := l) (fun y hy => h y (by simp [hy]))
    have h2 := h x (by simp)
    simp only [List.map_cons, List.sum_cons, List.length_cons, Int.natCast_add, Int.mul_add]
    omega
/-- The three parts of a vertex, each at most a million. -/
theorem vtx_in {p : MeshD} (h : meshOk p) {x : Int} (hx : 0 ≤ x ∧ x < (p.nV : Int)) : (-1000000 ≤ (vtx p x).f0 ∧ (vtx p x).f0 ≤ 1000000) ∧ (-1000000 ≤ (vtx p x).f1 ∧ (vtx p x).f1 ≤ 1000000) ∧ (-1000000 ≤ (vtx p x).f2 ∧ (vtx p x).f2 ≤ 1000000) := by
  have := h.2.2.1 x.toNat (by omega)
  simp only [vecOkD, vecOk, Bool.and_eq_true, inB_true] at this
  exact ⟨this.1.1, this.1.2, this.2⟩
/-- The neighbours of a vertex are vertices. -/
theorem nb_in {p : MeshD} (h : meshOk p) {L : List (Int × Int)} (hL : ∀ e ∈ L, e ∈ edgesL p.faces p.nF) {v x : Int} (hx : x ∈ nbOf L v) : 0 ≤ x ∧ x < (p.nV : Int) := by
  simp only [nbOf, List.mem_flatMap] at hx
  obtain ⟨e, he, hx⟩ := hx
  obtain ⟨i, j, hi, hj, rfl⟩ := mem_edgesL (hL e he)
  have hs := step_in (h.2.2.2.1 i hi) hj
  generalize stepAt (faceAt p.faces i) j = q at *
  obtain ⟨a, b⟩ := q
  simp only [endsE, List.mem_append] at hx
  simp only at hs
  rcases hx with hx | hx
  · by_cases hh : (und (a, b)).1 = v
    · rw [if_pos hh] at hx; simp [und] at hx; omega
    · rw [if_neg hh] at hx; cases hx
  · by_cases hh : (und (a, b)).2 = v
    · rw [if_pos hh] at hx; simp [und] at hx; omega
    · rw [if_neg hh] at hx; cases hx
theorem vf_in {p : MeshD} {v x : Int} (hx : x ∈ vfTo p.faces v p.nF) : 0 ≤ x ∧ x < (p.nF : Int) := by
  simp only [vfTo, List.mem_map, List.mem_filter, List.mem_range] at hx
  obtain ⟨i, ⟨hi, _⟩, rfl⟩ := hx
  omega
/-- The point of a vertex v of a valid mesh. -/
noncomputable def vpE (p : MeshD) (v : Int) : Value :=
  let ends := nbOf (bndL p.faces p.nF) v
  let faces := vfTo p.faces v p.nF
  let nbs := nbOf (edgesL p.faces p.nF) v
  let n : Int := faces.length
  let old := vtx p v
  let mid := fun g : VecD → Int => fdivI (g old * 6 + sumG g p ends) 8
  let in_ := fun g : VecD → Int => fdivI (g old * (n * (n - 3)) + sumH g p faces + (g old * nbs.length + sumG g p nbs)) (n * n)
  if ends.length = 2 then vecV (mid (·.f0)) (mid (·.f1)) (mid (·.f2))
  else if 0 < ends.length ∨ faces.length = 0 then vecV old.f0 old.f1 old.f2
  else vecV (in_ (·.f0)) (in_ (·.f1)) (in_ (·.f2))
noncomputable def vpR (p : MeshD) (v : Int) : Value := open Classical in if meshOk p ∧ 0 ≤ v ∧ v ≤ (p.nV : Int) - 1 then vpE p v else vecV 0 0 0
theorem vpR_yes {p : MeshD} {v : Int} (h : meshOk p ∧ 0 ≤ v ∧ v ≤ (p.nV : Int) - 1) : vpR p v = vpE p v := if_pos h
theorem vpR_no {p : MeshD} {v : Int} (h : ¬ (meshOk p ∧ 0 ≤ v ∧ v ≤ (p.nV : Int) - 1)) : vpR p v = vecV 0 0 0 := if_neg h
theorem vpE_vec (p : MeshD) (v : Int) : ∃ x y z, vpE p v = vecV x y z := by
  unfold vpE
  dsimp only
  split
  · exact ⟨_, _, _, rfl⟩
  · split <;> exact ⟨_, _, _, rfl⟩
theorem vpR_vec (p : MeshD) (v : Int) : ∃ x y z, vpR p v = vecV x y z := by
  unfold vpR
  split
  · exact vpE_vec p v
  · exact ⟨_, _, _, rfl⟩
end Go.Proofs.Ytpfmcobkfofbjaa
