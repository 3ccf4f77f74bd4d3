/- Contracts of impl.edgePoint and of what it rests on. -/
import Derived.Test.YtbmhehjllchpoaaGreatSums
import Derived.Test.YtbmhehjllchpoaaGreatApp2
set_option linter.unusedSimpArgs false
set_option linter.unusedVariables false
namespace Go.Proofs.YtbmhehjllchpoaaGreat
open Go Go.RowKit
def vtx (p : MeshD) (x : Int) : VecD := p.verts.getD x.toNat default
def fpD (p : MeshD) (x : Int) : VecD := ⟨fdivI (sumTo p.verts (·.f0) (faceAt p.faces x.toNat) 4) 4, fdivI (sumTo p.verts (·.f1) (faceAt p.faces x.toNat) 4) 4, fdivI (sumTo p.verts (·.f2) (faceAt p.faces x.toNat) 4) 4⟩
def epL (p : MeshD) (x y : Int) (on : List Int) : List VecD := [vtx p x, vtx p y] ++ (if on.length = 2 then [fpD p (on.getD 0 0), fpD p (on.getD 1 0)] else [])
def epV (p : MeshD) (x y : Int) (on : List Int) : Value := meanL (epL p x y on) (epL p x y on).length (epL p x y on).length
theorem sumL_full (g : VecD → Int) (L : List VecD) : sumL g L L.length = (L.map g).sum := by
  unfold sumL
  congr 1
  refine List.ext_getElem (by simp) fun i h1 h2 => ?_
  have h3 : i < L.length := by simpa using h2
  simp [List.getD_eq_getElem?_getD, List.getElem?_eq_getElem h3]
theorem epV_swap (p : MeshD) (x y : Int) (on : List Int) : epV p x y on = epV p y x on := by
  have hl : (epL p x y on).length = (epL p y x on).length := by simp [epL]
  unfold epV meanL
  rw [hl]
  have hs : ∀ g : VecD → Int, sumL g (epL p x y on) (epL p y x on).length = sumL g (epL p y x on) (epL p y x on).length := fun g => by
    rw [← hl, sumL_full, hl, sumL_full]
    simp only [epL, List.map_append, List.map_cons, List.map_nil, List.sum_append, List.sum_cons, List.sum_nil]
    omega
  rw [hs, hs, hs]
noncomputable def epR (p : MeshD) (a b : Int) : Value := if (efacesD p a b).length = 0 then vecV 0 0 0 else epV p a b (efacesD p a b)
theorem mem_hits {s : List (List Int)} {e : Int × Int} {k : Nat} {z : Int} (h : z ∈ hitsTo s e k) : ∃ i j : Nat, i < k ∧ j < 4 ∧ z = (i : Int) ∧ und (stepAt (faceAt s i) j) = e := by
  simp only [hitsTo, List.mem_flatten, List.mem_map, List.mem_range] at h
  obtain ⟨l, ⟨i, hi, rfl⟩, hz⟩ := h
  simp only [stepHits, List.mem_map, List.mem_filter, List.mem_range, decide_eq_true_eq] at hz
  obtain ⟨j, ⟨hj, he⟩, rfl⟩ := hz
  exact ⟨i, j, hi, hj, rfl, he⟩
/-- What faces of an edge tell of it. -/
structure OnEdge (p : MeshD) (a b : Int) (on : List Int) : Prop where
  ok : meshOk p
  a0 : 0 ≤ a ∧ a < (p.nV : Int)
  b0 : 0 ≤ b ∧ b < (p.nV : Int)
  on : ∀ z ∈ on, 0 ≤ z ∧ z < (p.nF : Int)
theorem OnEdge.swap {p : MeshD} {a b : Int} {on : List Int} (h : OnEdge p a b on) : OnEdge p b a on := ⟨h.ok, h.b0, h.a0, h.on⟩
theorem step_in {nV : Nat} {f : List Int} (h : faceOk nV f) {j : Nat} (hj : j < 4) : (0 ≤ (stepAt f j).1 ∧ (stepAt f j).1 < (nV : Int)) ∧ 0 ≤ (stepAt f j).2 ∧ (stepAt f j).2 < (nV : Int) := by
  obtain ⟨h4, hA, _⟩ := h
  have h1 := hA j (by omega)
  have h2 := hA ((j + 1) % f.length) (Nat.mod_lt _ (by omega))
  simp only [stepAt]
  omega
theorem onEdge_of {p : MeshD} {a b : Int} (h : ¬ (efacesD p a b).length = 0) : OnEdge p a b (efacesD p a b) := by
  unfold efacesD at h ⊢
  split at h
  · rename_i hok
    have hm := meshOkB_true.1 hok
    rw [if_pos hok]
    obtain ⟨z, hz⟩ := List.exists_mem_of_length_pos (by omega : 0 < (hitsTo p.faces (und (a, b)) p.nF).length)
    obtain ⟨i, j, hi, hj, _, he⟩ := mem_hits hz
    have hs := step_in (hm.2.2.2.1 i hi) hj
    have hu := (und_iff (stepAt (faceAt p.faces i) j).1 (stepAt (faceAt p.faces i) j).2 a b).1 he
    refine ⟨hm, ?_, ?_, fun z hz => ?_⟩
    · rcases hu with ⟨h1, h2⟩ | ⟨h1, h2⟩ <;> omega
    · rcases hu with ⟨h1, h2⟩ | ⟨h1, h2⟩ <;> omega
    · obtain ⟨i, j, hi, hj, rfl, _⟩ := mem_hits hz
      omega
  · exact absurd rfl h
theorem vtx_B {p : MeshD} (h : meshOk p) {x : Int} (hx : 0 ≤ x ∧ x < (p.nV : Int)) : VecB (vtx p x) := by
  have := h.2.2.1 x.toNat (by omega)
  simp only [vecOkD, vecOk, Bool.and_eq_true, inB_true] at this
  exact ⟨by unfold vtx; omega, by unfold vtx; omega, by unfold vtx; omega⟩
theorem fdiv4_B {s : Int} (h : -4000000 ≤ s ∧ s ≤ 4000000) : -1000000 ≤ fdivI s 4 ∧ fdivI s 4 ≤ 1000000 := by
  unfold fdivI
  split <;> omega
theorem fpD_in {p : MeshD} (h : meshOk p) {x : Int} (hx : 0 ≤ x ∧ x < (p.nF : Int)) : (-1000000 ≤ (fpD p x).f0 ∧ (fpD p x).f0 ≤ 1000000) ∧ (-1000000 ≤ (fpD p x).f1 ∧ (fpD p x).f1 ≤ 1000000) ∧ (-1000000 ≤ (fpD p x).f2 ∧ (fpD p x).f2 ≤ 1000000) := by
  have hf := faceV_of h (k := x.toNat) (by omega)
  exact ⟨fdiv4_B (sum_in (j := 4) (by omega) hf.b0), fdiv4_B (sum_in (j := 4) (by omega) hf.b1), fdiv4_B (sum_in (j := 4) (by omega) hf.b2)⟩
theorem fpD_B {p : MeshD} (h : meshOk p) {x : Int} (hx : 0 ≤ x ∧ x < (p.nF : Int)) : VecB (fpD p x) := by
  obtain ⟨h0, h1, h2⟩ := fpD_in h hx
  exact ⟨by omega, by omega, by omega⟩
theorem fpV_D (p : MeshD) (x : Int) : fpV p.verts (faceAt p.faces x.toNat) = vecV (fpD p x).f0 (fpD p x).f1 (fpD p x).f2 := rfl
theorem two_B {x y : VecD} (hx : VecB x) (hy : VecB y) : VecsB [x, y] 2 := fun i hi => by
  match i, hi with
  | 0, _ => exact hx
  | 1, _ => exact hy
theorem four_B {x y z u : VecD} (hx : VecB x) (hy : VecB y) (hz : VecB z) (hu : VecB u) : VecsB [x, y, z, u] 4 := fun i hi => by
  match i, hi with
  | 0, _ => exact hx
  | 1, _ => exact hy
  | 2, _ => exact hz
  | 3, _ => exact hu
theorem at_two {x y : VecD} : ∀ i, i < 2 → ∀ j, j < 3 → [Value.int .i64 x.f0, .int .i64 x.f1, .int .i64 x.f2, .int .i64 y.f0, .int .i64 y.f1, .int .i64 y.f2][i * 3 + j]? = (VecD.at [x, y] i)[j]? := by
  intro i hi j hj
  match i, j, hi, hj with
  | 0, 0, _, _ => rfl
  | 0, 1, _, _ => rfl
  | 0, 2, _, _ => rfl
  | 1, 0, _, _ => rfl
  | 1, 1, _, _ => rfl
  | 1, 2, _, _ => rfl
theorem at_four {x y z u : VecD} : ∀ i, i < 4 → ∀ j, j < 3 → ([Value.int .i64 x.f0, .int .i64 x.f1, .int .i64 x.f2, .int .i64 y.f0, .int .i64 y.f1, .int .i64 y.f2] ++ [Value.int .i64 z.f0, .int .i64 z.f1, .int .i64 z.f2, .int .i64 u.f0, .int .i64 u.f1, .int .i64 u.f2])[i * 3 + j]? = (VecD.at [x, y, z, u] i)[j]? := by
  intro i hi j hj
  match i, j, hi, hj with
  | 0, 0, _, _ => rfl
  | 0, 1, _, _ => rfl
  | 0, 2, _, _ => rfl
  | 1, 0, _, _ => rfl
  | 1, 1, _, _ => rfl
  | 1, 2, _, _ => rfl
  | 2, 0, _, _ => rfl
  | 2, 1, _, _ => rfl
  | 2, 2, _, _ => rfl
  | 3, 0, _, _ => rfl
  | 3, 1, _, _ => rfl
  | 3, 2, _, _ => rfl
theorem own_two (W : World) (x y : VecD) (base : Nat) (hb : base ≤ W.heap.size) : (W.alloc (.cells #[.int .i64 x.f0, .int .i64 x.f1, .int .i64 x.f2, .int .i64 y.f0, .int .i64 y.f1, .int .i64 y.f2] 28)).ownsRow base 28 3 (.slice (some ⟨W.heap.size, 0, none⟩) 2 2) 2 [.int .i64 x.f0, .int .i64 x.f1, .int .i64 x.f2, .int .i64 y.f0, .int .i64 y.f1, .int .i64 y.f2] :=
  ⟨rfl, .inr ⟨W.heap.size, 2, _, rfl, hb, heap_alloc_new _ _, Nat.le_refl _, by decide, rfl, rfl⟩⟩
theorem sl_of_own {w : World} {base n : Nat} {e : TypeId} {v : Value} {xs : List Value} {L : List VecD} (h : w.ownsRow base e 3 v n xs) (hC : ∀ i, i < n → ∀ j, j < 3 → xs[i * 3 + j]? = (VecD.at L i)[j]?) : ∃ a cap, v = .slice a n cap ∧ Sl w a 3 n (VecD.at L) := by
  obtain ⟨a, cap, rfl, ho⟩ := ow_of_ownsRow h hC
  exact ⟨a, cap, rfl, ho.sl⟩
theorem info_VecA : (Tryz.prog.info? 28).map (fun i => (i.zero, i.size, i.bytes)) = some (some (.agg #[.int .i64 0, .int .i64 0, .int .i64 0]), 3, 24) := by kernel_rfl
end Go.Proofs.YtbmhehjllchpoaaGreat
