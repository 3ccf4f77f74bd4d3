/- SubMath, with FsX, EdgesP, EdgePointS ahead of it. -/
import Derived.Test.YtpfmcobkfofbjaaMarkMesh
import Derived.Test.YtpfmcobkfofbjaaEdgesS
import Derived.Test.YtpfmcobkfofbjaaEdgePointI
import Derived.Test.YtpfmcobkfofbjaaVtx
namespace Go.Proofs.Ytpfmcobkfofbjaa
open Go Go.RowKit
def sumLen (l : List (List Int)) (k : Nat) : Nat := ((List.range k).map fun i => (faceAt l i).length).sum
theorem sumLen_succ (l : List (List Int)) (k : Nat) : sumLen l (k + 1) = sumLen l k + (faceAt l k).length := by simp [sumLen, List.range_succ]
theorem sumLen_le {l : List (List Int)} : ∀ {k : Nat}, (∀ i, i < k → (faceAt l i).length ≤ 1000) → sumLen l k ≤ 1000 * k
  | 0, _ => by simp [sumLen]
  | k + 1, h => by
    rw [sumLen_succ]
    have := sumLen_le (k := k) (fun i hi => h i (by omega))
    have := h k (by omega)
    omega
def intMk (_l : List Int) (k0 i : Nat) : List Value := [.int .i64 ((k0 : Int) + (i : Int))]
/-- What row i holds: its numbers, or its marks. -/
def fsC (l : List (List Int)) : Option Nat → Nat → Nat → List Value
  | none, i => intAt (faceAt l i)
  | some k0, i => intMk (faceAt l i) (k0 + sumLen l i)
/-- The slice at a reads as these rows. -/
def FsY (w : World) (a : Option Addr) (n : Nat) (l : List (List Int)) (M : Option Nat) : Prop :=
  ∃ (A : Nat → Option Addr) (K : Nat → Nat), Sl w a 1 n (facesAt l A K) ∧ (∀ i, i < n → Sl w (A i) 1 (faceAt l i).length (fsC l M i)) ∧ (∀ i, i < n → (faceAt l i).length ≤ K i) ∧ ∀ i, i < n → (faceAt l i).length ≤ 1000
/-- .. in blocks of one's own from lo on and before hi; d: no two rows one and the same. -/
def FsX (w : World) (lo hi : Nat) (d : Bool) (a : Option Addr) (n : Nat) (l : List (List Int)) (M : Option Nat) : Prop :=
  ∃ (A : Nat → Option Addr) (K B : Nat → Nat) (g : Nat), Ow w g (g + 1) a 1 n (facesAt l A K) ∧ (∀ i, i < n → lo ≤ B i ∧ B i < hi ∧ B i ≠ g ∧ Ow w (B i) (B i + 1) (A i) 1 (faceAt l i).length (fsC l M i)) ∧ (d = true → ∀ i j, i < j → j < n → B i ≠ B j) ∧ (0 < n → lo ≤ g ∧ g < hi) ∧ (∀ i, i < n → (faceAt l i).length ≤ K i) ∧ ∀ i, i < n → (faceAt l i).length ≤ 1000
theorem FsX.sl {w : World} {lo hi : Nat} {d : Bool} {a : Option Addr} {n : Nat} {l : List (List Int)} {M : Option Nat} (h : FsX w lo hi d a n l M) : FsY w a n l M := by
  obtain ⟨A, K, B, g, h1, h2, _, _, h3, h4⟩ := h
  exact ⟨A, K, h1.sl, fun i hi => (h2 i hi).2.2.2.sl, h3, h4⟩
theorem FsY.below {w w' : World} {a : Option Addr} {n : Nat} {l : List (List Int)} {M : Option Nat} (h : FsY w a n l M) (hb : Below w.heap.size w w') : FsY w' a n l M := by
  obtain ⟨A, K, h1, h2, h3⟩ := h
  exact ⟨A, K, h1.below hb, fun i hi => (h2 i hi).below hb, h3⟩
theorem FsX.chg {w w' : World} {lo hi lo' hi' : Nat} {d : Bool} {a : Option Addr} {n : Nat} {l : List (List Int)} {M : Option Nat} (h : FsX w lo hi d a n l M) (k : Chg lo' hi' w w') (hd : hi ≤ lo' ∨ hi' ≤ lo) : FsX w' lo hi d a n l M := by
  obtain ⟨A, K, B, g, h1, h2, h3, h4, h5⟩ := h
  refine ⟨A, K, B, g, fun hn => ?_, fun i hi => ?_, h3, h4, h5⟩
  · have := h4 hn
    exact h1.chg k (by omega) hn
  · obtain ⟨b1, b2, b3, b4⟩ := h2 i hi
    exact ⟨b1, b2, b3, b4.chg k (by omega)⟩
theorem FsX.below {w w' : World} {lo hi : Nat} {d : Bool} {a : Option Addr} {n : Nat} {l : List (List Int)} {M : Option Nat} (h : FsX w lo hi d a n l M) (hb : Below w.heap.size w w') : FsX w' lo hi d a n l M := by
  obtain ⟨A, K, B, g, h1, h2, h3, h4, h5⟩ := h
  exact ⟨A, K, B, g, h1.below hb, fun i hi => ⟨(h2 i hi).1, (h2 i hi).2.1, (h2 i hi).2.2.1, (h2 i hi).2.2.2.below hb⟩, h3, h4, h5⟩
theorem FsX.wide {w : World} {lo hi lo' hi' : Nat} {d : Bool} {a : Option Addr} {n : Nat} {l : List (List Int)} {M : Option Nat} (h : FsX w lo hi d a n l M) (h1 : lo' ≤ lo) (h2 : hi ≤ hi') : FsX w lo' hi' d a n l M := by
  obtain ⟨A, K, B, g, k1, k2, k3, k4, k5⟩ := h
  exact ⟨A, K, B, g, k1, fun i hi => ⟨by have := (k2 i hi).1; omega, by have := (k2 i hi).2.1; omega, (k2 i hi).2.2⟩, k3, fun hn => by have := k4 hn; omega, k5⟩
theorem FsY.r {w : World} {a : Option Addr} {n : Nat} {l : List (List Int)} (h : FsY w a n l none) : FsR w a n l := by
  obtain ⟨A, K, h1, h2, h3, h4⟩ := h
  exact ⟨A, K, h1, h2, h3⟩
end Go.Proofs.Ytpfmcobkfofbjaa
namespace Go.Proofs.Ytpfmcobkfofbjaa
open Go Go.RowKit
def pairsL (L : List (Int × Int)) : List (List Int) := L.map fun p => [p.1, p.2]
theorem face_pairs {L : List (Int × Int)} {i : Nat} (h : i < L.length) : faceAt (pairsL L) i = [(L.getD i (0, 0)).1, (L.getD i (0, 0)).2] := by
  simp [faceAt, pairsL, List.getD_eq_getElem?_getD, List.getElem?_eq_getElem h]
theorem fsX_of {w : World} {lo hi : Nat} {d : Bool} {a : Option Addr} {cap : Nat} {L : List (Int × Int)} {A : Nat → Option Addr} (h : PairsIn w lo hi (.slice a L.length cap) L A) (hd : d = true → ∀ i j, i < j → j < L.length → A i ≠ A j) : FsX w lo hi d a L.length (pairsL L) none := by
  by_cases h0 : L.length = 0
  · rw [h0]
    exact ⟨A, fun _ => 0, fun _ => 0, 0, Ow.none, fun i hi => absurd hi (Nat.not_lt_zero _), fun _ i j _ hj => absurd hj (Nat.not_lt_zero _), fun h => absurd h (Nat.lt_irrefl _), fun i hi => absurd hi (Nat.not_lt_zero _), fun i hi => absurd hi (Nat.not_lt_zero _)⟩
  have hl2 : ∀ i, i < L.length → (faceAt (pairsL L) i).length = 2 := fun i hi => by rw [face_pairs hi]; rfl
  have hown := h.own
  rcases hown.2 with ⟨_, h1⟩ | ⟨g, cap', cur, h1, hb, hg, hnc, hcm, hcs, ht⟩
  · exact absurd h1 h0
  · simp only [Value.slice.injEq] at h1
    obtain ⟨rfl, _, rfl⟩ := h1
    have htop := h.top g rfl
    have hcl : cap * 1 ≥ L.length := by omega
    have hcl2 : L.length * 1 ≤ cur.toList.length := by have : cur.toList.length = cap * 1 := by simpa using hcs
                                                       omega
    refine ⟨A, fun _ => 2, fun i => match A i with | some ad => ad.block | none => 0, g, fun _ => ⟨g, cur.toList, 57, rfl, Nat.le_refl _, Nat.lt_succ_self _, hg, hcl2, fun i hi j hj => ?_⟩, fun i hi => ?_, fun hdt i j hij hj => ?_, fun _ => ⟨hb, htop⟩, fun i hi => by rw [hl2 i hi]; exact Nat.le_refl 2, fun i hi => by rw [hl2 i hi]; decide⟩
    · obtain rfl : j = 0 := by omega
      rw [Nat.mul_one, Nat.add_zero]
      have h2 : (slices2 A L.length)[i]? = some (.slice (A i) 2 2) := by simp [slices2, hi]
      rw [← ht, List.getElem?_take, if_pos (by omega)] at h2
      rw [h2]
      simp [facesAt, hl2 i hi]
    · obtain ⟨u, hu, h3, h4, h5⟩ := h.pair i hi
      simp only [hu]
      refine ⟨h3, h4, fun e => ?_, fun _ => ⟨u, [.int .i64 (L.getD i (0, 0)).1, .int .i64 (L.getD i (0, 0)).2], 3, rfl, Nat.le_refl _, Nat.lt_succ_self _, h5, by rw [hl2 i hi]; exact Nat.le_refl 2, fun k hk j hj => ?_⟩⟩
      · rw [e, hg] at h5
        simp only [Option.some.injEq, Obj.cells.injEq] at h5
        exact absurd h5.2.1 (by decide)
      · obtain rfl : j = 0 := by omega
        rw [hl2 i hi] at hk
        simp only [fsC, face_pairs hi]
        match k, hk with
        | 0, _ => rfl
        | 1, _ => rfl
    · obtain ⟨u, hu, _⟩ := h.pair i (by omega)
      obtain ⟨v, hv, _⟩ := h.pair j hj
      have hne := hd hdt i j hij hj
      simp only [hu, hv] at hne ⊢
      intro e
      exact hne (by rw [e])
theorem impl_EdgesP_c (v : Value) (p : MeshD) (w : World) (hr : MeshR w v p) (hs : MeshSz 1048576 p) :
    Calls Try.prog 9 #[v] w fun e w' => ∃ a cap, e = .returned (.slice a (edgesD p).length cap) ∧ FsX w' w.heap.size w'.heap.size true a (edgesD p).length (pairsL (edgesD p)) none ∧ Below w.heap.size w w' :=
  (impl_edgesD_c v p w hr hs).mono fun e w' ⟨u, A, he, hp, hd, hb⟩ => by
    obtain ⟨a, cap, rfl⟩ := hp.form
    exact ⟨a, cap, he, fsX_of hp (fun _ => hd), hb⟩
theorem impl_BoundaryEdgesP_c (v : Value) (p : MeshD) (w : World) (hr : MeshR w v p) (hs : MeshSz 1048576 p) :
    Calls Try.prog 13 #[v] w fun e w' => ∃ a cap, e = .returned (.slice a (bndD p).length cap) ∧ FsX w' w.heap.size w'.heap.size true a (bndD p).length (pairsL (bndD p)) none ∧ Below w.heap.size w w' :=
  (impl_bndD_c v p w hr hs).mono fun e w' ⟨u, A, he, hp, hd, hb⟩ => by
    obtain ⟨a, cap, rfl⟩ := hp.form
    exact ⟨a, cap, he, fsX_of hp (fun _ => hd), hb⟩
end Go.Proofs.Ytpfmcobkfofbjaa
namespace Go.Proofs.Ytpfmcobkfofbjaa
open Go Go.RowKit
end Go.Proofs.Ytpfmcobkfofbjaa
namespace Go.Proofs.Ytpfmcobkfofbjaa
open Go Go.RowKit
/-- A vector value's three parts. -/
def vecOf : Value → VecD
  | .agg #[.int _ x, .int _ y, .int _ z] => ⟨x, y, z⟩
  | _ => default
noncomputable def vpD (p : MeshD) (v : Int) : VecD := vecOf (vpE p v)
theorem vpE_D (p : MeshD) (v : Int) : vpE p v = vecV (vpD p v).f0 (vpD p v).f1 (vpD p v).f2 := by
  obtain ⟨x, y, z, h⟩ := vpE_vec p v
  rw [vpD, h]
  rfl
noncomputable def epD (p : MeshD) (e : Int × Int) : VecD := vecOf (epV p e.1 e.2 (hitsTo p.faces e p.nF))
theorem epV_D (p : MeshD) (e : Int × Int) : epV p e.1 e.2 (hitsTo p.faces e p.nF) = vecV (epD p e).f0 (epD p e).f1 (epD p e).f2 := rfl
/-- The place of an edge among the edges. -/
def placeE (L : List (Int × Int)) (e : Int × Int) : Nat := L.idxOf e
theorem placeE_lt {L : List (Int × Int)} {e : Int × Int} (h : e ∈ L) : placeE L e < L.length := List.idxOf_lt_length_iff.2 h
/-- The new face at corner j of face i. -/
noncomputable def subFace (p : MeshD) (i j : Nat) : List Int :=
  let L := edgesL p.faces p.nF
  let f := faceAt p.faces i
  [f.getD j 0, p.nV + placeE L (und (f.getD j 0, f.getD ((j + 1) % 4) 0)), p.nV + L.length + i, p.nV + placeE L (und (f.getD j 0, f.getD ((j + 3) % 4) 0))]
noncomputable def subOk (p : MeshD) : Prop := meshOk p ∧ p.nF ≤ 16 ∧ p.nV + (edgesL p.faces p.nF).length + p.nF ≤ 80
/-- The vertices: a point for each vertex, edge and face. -/
noncomputable def subVs (p : MeshD) : List VecD := ((List.range p.nV).map fun v : Nat => vpD p (v : Int)) ++ (edgesL p.faces p.nF).map (epD p) ++ (List.range p.nF).map fun i : Nat => fpD p (i : Int)
noncomputable def subFs (p : MeshD) : List (List Int) := (List.range p.nF).flatMap fun i => (List.range 4).map fun j => subFace p i j
theorem subVs_len (p : MeshD) : (subVs p).length = p.nV + (edgesL p.faces p.nF).length + p.nF := by simp [subVs]; omega
theorem subFs_len (p : MeshD) : (subFs p).length = 4 * p.nF := by
  have h : ∀ n, ((List.range n).flatMap fun i => (List.range 4).map fun j => subFace p i j).length = 4 * n := fun n => by
    induction n with
    | zero => rfl
    | succ n ih => rw [List.range_succ (n := n), List.flatMap_append, List.length_append, ih]; simp; omega
  exact h p.nF
open Classical in
noncomputable def subD (p : MeshD) : MeshD := if subOk p then ⟨subVs p, subFs p, p.nV + (edgesL p.faces p.nF).length + p.nF, 4 * p.nF, subVs_len p, subFs_len p⟩ else ⟨[], [], 0, 0, rfl, rfl⟩
open Classical in
noncomputable def subB (p : MeshD) : Bool := decide (subOk p)
theorem hits_pos {s : List (List Int)} {k : Nat} {e : Int × Int} (h : e ∈ edgesL s k) : (hitsTo s e k).length ≠ 0 := by
  obtain ⟨i, j, hi, hj, rfl⟩ := mem_edgesL h
  have h1 : (i : Int) ∈ hitsTo s (und (stepAt (faceAt s i) j)) k := by
    simp only [hitsTo, List.mem_flatten, List.mem_map, List.mem_range]
    refine ⟨_, ⟨i, hi, rfl⟩, ?_⟩
    simp only [stepHits, List.mem_map, List.mem_filter, List.mem_range]
    exact ⟨j, ⟨hj, by simp⟩, by first | rfl | trivial⟩
  have := List.length_pos_of_mem h1
  omega
theorem und_edge {s : List (List Int)} {k : Nat} {e : Int × Int} (h : e ∈ edgesL s k) : und (e.1, e.2) = e := by
  obtain ⟨i, j, hi, hj, rfl⟩ := mem_edgesL h
  generalize stepAt (faceAt s i) j = q
  obtain ⟨x, y⟩ := q
  simp only [und, Prod.mk.injEq]
  omega
theorem epR_edge {p : MeshD} (hok : meshOkB p = true) {e : Int × Int} (h : e ∈ edgesL p.faces p.nF) : epR p e.1 e.2 = vecV (epD p e).f0 (epD p e).f1 (epD p e).f2 := by
  have h1 : efacesD p e.1 e.2 = hitsTo p.faces e p.nF := by rw [efacesD, if_pos hok, und_edge h]
  rw [epR, h1, if_neg (hits_pos h), epV_D]
end Go.Proofs.Ytpfmcobkfofbjaa
