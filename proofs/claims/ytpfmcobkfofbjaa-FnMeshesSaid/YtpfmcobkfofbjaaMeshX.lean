/- A mesh of one's own whose rows lie in whatever blocks: its reading, its marks. -/
import Derived.Test.YtpfmcobkfofbjaaSubMath
import Derived.Test.YtpfmcobkfofbjaaSubK
namespace Go.Proofs.Ytpfmcobkfofbjaa
open Go Go.RowKit
/-- Rows of one's own as FsX has them, none of them in block gv. -/
def FsV (w : World) (lo hi gv : Nat) (a : Option Addr) (n : Nat) (l : List (List Int)) (M : Option Nat) : Prop :=
  ∃ (A : Nat → Option Addr) (K B : Nat → Nat) (g : Nat), Ow w g (g + 1) a 1 n (facesAt l A K) ∧ (∀ i, i < n → lo ≤ B i ∧ B i < hi ∧ B i ≠ g ∧ B i ≠ gv ∧ Ow w (B i) (B i + 1) (A i) 1 (faceAt l i).length (fsC l M i)) ∧ (∀ i j, i < j → j < n → B i ≠ B j) ∧ (0 < n → lo ≤ g ∧ g < hi ∧ g ≠ gv) ∧ (∀ i, i < n → (faceAt l i).length ≤ K i) ∧ ∀ i, i < n → (faceAt l i).length ≤ 1000
theorem FsV.x {w : World} {lo hi gv : Nat} {a : Option Addr} {n : Nat} {l : List (List Int)} {M : Option Nat} (h : FsV w lo hi gv a n l M) : FsX w lo hi true a n l M := by
  obtain ⟨A, K, B, g, h1, h2, h3, h4, h5⟩ := h
  exact ⟨A, K, B, g, h1, fun i hi => ⟨(h2 i hi).1, (h2 i hi).2.1, (h2 i hi).2.2.1, (h2 i hi).2.2.2.2⟩, fun _ => h3, fun hn => ⟨(h4 hn).1, (h4 hn).2.1⟩, h5⟩
theorem FsX.v {w : World} {lo hi gv : Nat} {a : Option Addr} {n : Nat} {l : List (List Int)} {M : Option Nat} (h : FsX w lo hi true a n l M) (hg : hi ≤ gv) : FsV w lo hi gv a n l M := by
  obtain ⟨A, K, B, g, h1, h2, h3, h4, h5⟩ := h
  exact ⟨A, K, B, g, h1, fun i hi => ⟨(h2 i hi).1, (h2 i hi).2.1, (h2 i hi).2.2.1, by have := (h2 i hi).2.1; omega, (h2 i hi).2.2.2⟩, h3 rfl, fun hn => ⟨(h4 hn).1, (h4 hn).2, by have := (h4 hn).2; omega⟩, h5⟩
theorem FsV.chg {w w' : World} {lo hi gv lo' hi' : Nat} {a : Option Addr} {n : Nat} {l : List (List Int)} {M : Option Nat} (h : FsV w lo hi gv a n l M) (k : Chg lo' hi' w w') (hd : hi ≤ lo' ∨ hi' ≤ lo) : FsV w' lo hi gv a n l M := by
  obtain ⟨A, K, B, g, h1, h2, h3, h4, h5⟩ := h
  refine ⟨A, K, B, g, fun hn => ?_, fun i hi => ?_, h3, h4, h5⟩
  · have := h4 hn
    exact h1.chg k (by omega) hn
  · obtain ⟨b1, b2, b3, b5, b4⟩ := h2 i hi
    exact ⟨b1, b2, b3, b5, b4.chg k (by omega)⟩
theorem FsV.chg1 {w w' : World} {lo hi gv : Nat} {a : Option Addr} {n : Nat} {l : List (List Int)} {M : Option Nat} (h : FsV w lo hi gv a n l M) (k : Chg gv (gv + 1) w w') : FsV w' lo hi gv a n l M := by
  obtain ⟨A, K, B, g, h1, h2, h3, h4, h5⟩ := h
  refine ⟨A, K, B, g, fun hn => ?_, fun i hi => ?_, h3, h4, h5⟩
  · have := h4 hn
    exact h1.chg k (by omega) hn
  · obtain ⟨b1, b2, b3, b5, b4⟩ := h2 i hi
    exact ⟨b1, b2, b3, b5, b4.chg k (by omega)⟩
theorem FsV.below {w w' : World} {lo hi gv : Nat} {a : Option Addr} {n : Nat} {l : List (List Int)} {M : Option Nat} (h : FsV w lo hi gv a n l M) (hb : Below w.heap.size w w') : FsV w' lo hi gv a n l M := by
  obtain ⟨A, K, B, g, h1, h2, h3, h4, h5⟩ := h
  exact ⟨A, K, B, g, h1.below hb, fun i hi => ⟨(h2 i hi).1, (h2 i hi).2.1, (h2 i hi).2.2.1, (h2 i hi).2.2.2.1, (h2 i hi).2.2.2.2.below hb⟩, h3, h4, h5⟩
theorem FsV.wide {w : World} {lo hi gv lo' hi' : Nat} {a : Option Addr} {n : Nat} {l : List (List Int)} {M : Option Nat} (h : FsV w lo hi gv a n l M) (h1 : lo' ≤ lo) (h2 : hi ≤ hi') : FsV w lo' hi' gv a n l M := by
  obtain ⟨A, K, B, g, k1, k2, k3, k4, k5⟩ := h
  exact ⟨A, K, B, g, k1, fun i hi => ⟨by have := (k2 i hi).1; omega, by have := (k2 i hi).2.1; omega, (k2 i hi).2.2⟩, k3, fun hn => by have := k4 hn; omega, k5⟩
def VecD.mks (_l : List VecD) (k0 i : Nat) : List Value := [.int .i64 ((k0 : Int) + (i : Int) * 3), .int .i64 ((k0 : Int) + (i : Int) * 3 + 1), .int .i64 ((k0 : Int) + (i : Int) * 3 + 1 + 1)]
def vsC (l : List VecD) : Option Nat → Nat → List Value
  | none, i => VecD.at l i
  | some k0, i => VecD.mks l k0 i
/-- A mesh in blocks of one's own from lo on and before hi. -/
def MeshX (w : World) (lo hi : Nat) (v : Value) (p : MeshD) (M : Option Nat) : Prop :=
  ∃ (gv : Nat) (a : Option Addr) (c : Nat) (a' : Option Addr) (c' : Nat), v = .agg #[.slice a p.nV c, .slice a' p.nF c'] ∧ (0 < p.nV → lo ≤ gv ∧ gv < hi) ∧ Ow w gv (gv + 1) a 3 p.nV (vsC p.verts M) ∧ FsV w lo hi gv a' p.nF p.faces (M.map (· + p.nV * 3)) ∧ p.nV ≤ 1000 ∧ p.nF ≤ 1000
theorem MeshX.form {w : World} {lo hi : Nat} {v : Value} {p : MeshD} {M : Option Nat} (h : MeshX w lo hi v p M) : ∃ a c a' c', v = .agg #[.slice a p.nV c, .slice a' p.nF c'] := by
  obtain ⟨gv, a, c, a', c', e, _⟩ := h
  exact ⟨a, c, a', c', e⟩
theorem MeshX.r {w : World} {lo hi : Nat} {v : Value} {p : MeshD} (h : MeshX w lo hi v p none) : MeshR w v p := by
  obtain ⟨gv, a, c, a', c', e, _, h1, h2, _⟩ := h
  exact ⟨a, c, a', c', e, h1.sl, h2.x.sl.r⟩
theorem MeshX.sz {w : World} {lo hi : Nat} {v : Value} {p : MeshD} {M : Option Nat} (h : MeshX w lo hi v p M) : MeshSz 1048576 p := by
  obtain ⟨gv, a, c, a', c', e, _, h1, h2, h3, h4⟩ := h
  obtain ⟨A, K, B, g, _, _, _, _, _, h5⟩ := h2
  exact ⟨by omega, by omega, fun i hi => by have := h5 i hi; omega⟩
theorem MeshX.chg {w w' : World} {lo hi lo' hi' : Nat} {v : Value} {p : MeshD} {M : Option Nat} (h : MeshX w lo hi v p M) (k : Chg lo' hi' w w') (hd : hi ≤ lo' ∨ hi' ≤ lo) : MeshX w' lo hi v p M := by
  obtain ⟨gv, a, c, a', c', e, h0, h1, h2, h3⟩ := h
  exact ⟨gv, a, c, a', c', e, h0, fun hn => by have := h0 hn; exact h1.chg k (by omega) hn, h2.chg k hd, h3⟩
theorem MeshX.below {w w' : World} {lo hi : Nat} {v : Value} {p : MeshD} {M : Option Nat} (h : MeshX w lo hi v p M) (hb : Below w.heap.size w w') : MeshX w' lo hi v p M := by
  obtain ⟨gv, a, c, a', c', e, h0, h1, h2, h3⟩ := h
  exact ⟨gv, a, c, a', c', e, h0, h1.below hb, h2.below hb, h3⟩
theorem MeshX.wide {w : World} {lo hi lo' hi' : Nat} {v : Value} {p : MeshD} {M : Option Nat} (h : MeshX w lo hi v p M) (h1 : lo' ≤ lo) (h2 : hi ≤ hi') : MeshX w lo' hi' v p M := by
  obtain ⟨gv, a, c, a', c', e, k0, k1, k2, k3⟩ := h
  exact ⟨gv, a, c, a', c', e, fun hn => by have := k0 hn; omega, k1, k2.wide h1 h2, k3⟩
theorem MeshX.nil (w : World) (lo hi : Nat) {p : MeshD} (hv : p.nV = 0) (hf : p.nF = 0) : MeshX w lo hi (.agg #[.slice none 0 0, .slice none 0 0]) p none := by
  refine ⟨0, none, 0, none, 0, by rw [hv, hf], fun h => by omega, ?_, ?_, by omega, by omega⟩
  · rw [hv]; exact Ow.none
  · rw [hf]
    exact ⟨fun _ => none, fun _ => 0, fun _ => 0, 0, Ow.none, fun i h => absurd h (Nat.not_lt_zero _), fun i j _ h => absurd h (Nat.not_lt_zero _), fun h => absurd h (Nat.lt_irrefl _), fun i h => absurd h (Nat.not_lt_zero _), fun i h => absurd h (Nat.not_lt_zero _)⟩
/-- A mesh of one's own comes back, and a flag. -/
def GivesM (D : MeshD) (tb : Bool) (w : World) (e : Ending) (w' : World) : Prop :=
  ∃ v, e = .returned (.tuple #[v, .bool tb]) ∧ MeshX w' w.heap.size w'.heap.size v D none ∧ Below w.heap.size w w'
theorem own_at {w : World} {base : Nat} {e : TypeId} {s : Nat} {v : Value} {n : Nat} {xs : List Value} (h : w.ownsRow base e s v n xs) (hn : 0 < n) : ∃ g cap c, v = .slice (some ⟨g, 0, none⟩) n cap ∧ base ≤ g ∧ w.heap[g]? = some (.cells c e (0, 0)) := by
  rcases h.2 with ⟨rfl, h0⟩ | ⟨g, cap, cur, rfl, hb, hg, _⟩
  · omega
  · exact ⟨g, cap, cur, rfl, hb, hg⟩
theorem ow_one {w : World} {lo hi g : Nat} {s n : Nat} {C : Nat → List Value} {a : Option Addr} (h : Ow w lo hi a s n C) (hg : a = some ⟨g, 0, none⟩) : Ow w g (g + 1) a s n C := by
  intro hn
  obtain ⟨g', arr, e, h1, h2, h3, r⟩ := h hn
  subst hg
  simp only [Option.some.injEq, Addr.mk.injEq, and_true] at h1
  subst h1
  exact ⟨g, arr, e, rfl, Nat.le_refl _, Nat.lt_succ_self _, r⟩
/-- What rows of one's own and faces of one's own give. -/
theorem meshX_g {w : World} {base : Nat} {vs fs : Value} {p : MeshD} (h1 : w.ownsRow base 29 3 vs p.nV (vecVals p.verts)) (h2 : FacesG base p.nF fs p.faces w) (hv : p.nV ≤ 1000) (hf : p.nF ≤ 1000) : MeshX w base w.heap.size (.agg #[vs, fs]) p none := by
  obtain ⟨U, f1, f2, f3⟩ := h2
  obtain ⟨a, c, rfl, ho⟩ := ow_of_ownsRow h1 (by rw [vecVals, p.hV]; exact flat_get (s := 3) (n := p.nV) (C := VecD.at p.verts) (fun _ _ => rfl))
  have hU : ∀ i, ∃ (B : Nat) (A : Option Addr) (K : Nat), i < p.nF → U i = .slice A 4 K ∧ A = some ⟨B, 0, none⟩ ∧ base ≤ B ∧ 4 ≤ K ∧ ∃ cc, w.heap[B]? = some (.cells cc 3 (0, 0)) := fun i => by
    by_cases hi : i < p.nF
    · rcases (f2 i hi).2.2 with ⟨_, h0⟩ | ⟨g, cap, cur, e, hb, hg, hc, _⟩
      · omega
      · exact ⟨g, _, cap, fun _ => ⟨e, rfl, hb, hc, _, hg⟩⟩
    · exact ⟨0, none, 0, fun h => absurd h hi⟩
  obtain ⟨B, hB⟩ := Classical.axiomOfChoice hU
  obtain ⟨A, hA⟩ := Classical.axiomOfChoice hB
  obtain ⟨K, hK⟩ := Classical.axiomOfChoice hA
  clear hU hB hA
  have hlf : ∀ i, i < p.nF → (faceAt p.faces i).length = 4 := fun i hi => (f2 i hi).1
  obtain ⟨a', c', rfl, hof⟩ := ow_of_ownsRow (C := facesAt p.faces A K) f1 (fun i hi j hj => by
    obtain rfl : j = 0 := by omega
    simp only [Nat.mul_one, Nat.add_zero, List.getElem?_map, List.getElem?_range hi, Option.map_some, facesAt, List.getElem?_cons_zero, hlf i hi, (hK i hi).1])
  have hne : ∀ i j, i < j → j < p.nF → B i ≠ B j := fun i j hij hj q => f3 i j hij hj (by
    rw [(hK i (by omega)).1, (hK j hj).1, (hK i (by omega)).2.1, (hK j hj).2.1, q]; rfl)
  have hrow : ∀ gv, (∀ i, i < p.nF → B i ≠ gv) → (0 < p.nF → a' ≠ some ⟨gv, 0, none⟩) → FsV w base w.heap.size gv a' p.nF p.faces none := fun gv k1 k2 => by
    by_cases hn : 0 < p.nF
    · obtain ⟨g, cap, cc, e1, e2, e3⟩ := own_at f1 hn
      simp only [Value.slice.injEq] at e1
      obtain ⟨e1, _, _⟩ := e1
      refine ⟨A, K, B, g, ow_one hof e1, fun i hi => ?_, hne, fun _ => ⟨e2, (Array.getElem?_eq_some_iff.1 e3).1, fun q => k2 hn (by rw [e1, q])⟩, fun i hi => by rw [hlf i hi]; exact (hK i hi).2.2.2.1, fun i hi => by rw [hlf i hi]; decide⟩
      obtain ⟨d1, d2, d3, d4, cw, d5⟩ := hK i hi
      refine ⟨d3, (Array.getElem?_eq_some_iff.1 d5).1, fun q => ?_, k1 i hi, ?_⟩
      · rw [q, e3] at d5
        simp only [Option.some.injEq, Obj.cells.injEq] at d5
        exact absurd d5.2.1 (by decide)
      · obtain ⟨a2, c2, g1, g2⟩ := ow_of_ownsRow (C := intAt (faceAt p.faces i)) (f2 i hi).2 (fun t ht j hj => by
          obtain rfl : j = 0 := by omega
          have ht' : t < (p.faces.getD i []).length := by rw [(f2 i hi).1]; exact ht
          rw [Nat.mul_one, Nat.add_zero, List.getElem?_map, List.getElem?_eq_getElem ht']
          simp only [intAt, faceAt, List.getElem?_cons_zero]
          have e0 : (p.faces.getD i []).getD t 0 = (p.faces.getD i [])[t] := by rw [List.getD_eq_getElem?_getD (l := p.faces.getD i []), List.getElem?_eq_getElem ht']; rfl
          rw [e0]; rfl)
        rw [d1] at g1
        simp only [Value.slice.injEq] at g1
        rw [hlf i hi]
        rw [← g1.1] at g2
        exact ow_one g2 d2
    · have h0 : p.nF = 0 := by omega
      rw [h0]
      exact ⟨fun _ => none, fun _ => 0, fun _ => 0, 0, Ow.none, fun i h => absurd h (Nat.not_lt_zero _), fun i j _ h => absurd h (Nat.not_lt_zero _), fun h => absurd h (Nat.lt_irrefl _), fun i h => absurd h (Nat.not_lt_zero _), fun i h => absurd h (Nat.not_lt_zero _)⟩
  by_cases hn : 0 < p.nV
  · obtain ⟨g, cap, cc, e1, e2, e3⟩ := own_at h1 hn
    simp only [Value.slice.injEq] at e1
    obtain ⟨e1, _, _⟩ := e1
    refine ⟨g, a, c, a', c', rfl, fun _ => ⟨e2, (Array.getElem?_eq_some_iff.1 e3).1⟩, ow_one ho e1, hrow g (fun i hi q => ?_) (fun hf q => ?_), hv, hf⟩
    · obtain ⟨_, _, _, _, cw, b3⟩ := hK i hi
      rw [q, e3] at b3
      simp only [Option.some.injEq, Obj.cells.injEq] at b3
      exact absurd b3.2.1 (by decide)
    · obtain ⟨g2, cap2, cc2, d1, d2, d3⟩ := own_at f1 hf
      simp only [Value.slice.injEq] at d1
      obtain ⟨d1, _, _⟩ := d1
      rw [d1] at q
      simp only [Option.some.injEq, Addr.mk.injEq, and_true] at q
      rw [q, e3] at d3
      simp only [Option.some.injEq, Obj.cells.injEq] at d3
      exact absurd d3.2.1 (by decide)
  · have h0 : p.nV = 0 := by omega
    refine ⟨w.heap.size, a, c, a', c', rfl, fun h => by omega, by rw [h0]; exact Ow.none, hrow _ (fun i hi q => ?_) (fun hf q => ?_), hv, hf⟩
    · obtain ⟨_, _, _, _, cw, b3⟩ := hK i hi
      have := (Array.getElem?_eq_some_iff.1 b3).1
      omega
    · obtain ⟨g2, cap2, cc2, d1, d2, d3⟩ := own_at f1 hf
      simp only [Value.slice.injEq] at d1
      obtain ⟨d1, _, _⟩ := d1
      rw [d1] at q
      simp only [Option.some.injEq, Addr.mk.injEq, and_true] at q
      have := (Array.getElem?_eq_some_iff.1 d3).1
      omega
theorem meshX_of {w : World} {base : Nat} {vs fs : Value} {p : MeshD} (h1 : w.ownsRow base 29 3 vs p.nV (vecVals p.verts)) (h2 : FacesT base p.nF fs p.faces w) (hv : p.nV ≤ 1000) (hf : p.nF ≤ 1000) : MeshX w base w.heap.size (.agg #[vs, fs]) p none :=
  meshX_g h1 (facesG_of h2) hv hf
end Go.Proofs.Ytpfmcobkfofbjaa
