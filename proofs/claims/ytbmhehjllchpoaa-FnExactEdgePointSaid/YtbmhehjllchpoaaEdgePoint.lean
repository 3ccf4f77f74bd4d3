/- Contracts of impl.edgePoint and of what it rests on. -/
import Derived.Test.YtbmhehjllchpoaaSums
import Derived.Test.YtbmhehjllchpoaaApp2
namespace Go.Proofs.Ytbmhehjllchpoaa
open Go Go.RowKit
def vtx (p : MeshD) (x : Int) : VecD := p.verts.getD x.toNat default
def fpD (p : MeshD) (x : Int) : VecD := ⟨fdivI (sumTo p.verts (·.f0) (faceAt p.faces x.toNat) 4) 4, fdivI (sumTo p.verts (·.f1) (faceAt p.faces x.toNat) 4) 4, fdivI (sumTo p.verts (·.f2) (faceAt p.faces x.toNat) 4) 4⟩
def epL (p : MeshD) (x y : Int) (on : List Int) : List VecD := [vtx p x, vtx p y] ++ (if on.length = 2 then [fpD p (on.getD 0 0), fpD p (on.getD 1 0)] else [])
def epV (p : MeshD) (x y : Int) (on : List Int) : Value := meanL (epL p x y on) (epL p x y on).length (epL p x y on).length
theorem sumL_full (g : VecD → Int) (L : List VecD) : sumL g L L.length = (L.map g).sum := by
  unfold sumL
  congr 1
  refine List.ext_getElem (by simp) fun i h1 h2 => ?_
  have h3 : i < L.length := by simpa using h2
  simp [List.getD_eq_getElem?_getD, List.getElem?_eq_getElem h3]
theorem epV_swap (p : MeshD) (x y : Int) (on : List Int) : epV p x y on = epV p y x on := by
  have hl : (epL p x y on).length = (epL p y x on).length := by simp [epL]
  unfold epV meanL
  rw [hl]
  have hs : ∀ g : VecD → Int, sumL g (epL p x y on) (epL p y x on).length = sumL g (epL p y x on) (epL p y x on).length := fun g => by
    rw [← hl, sumL_full, hl, sumL_full]
    simp only [epL, List.map_append, List.map_cons, List.map_nil, List.sum_append, List.sum_cons, List.sum_nil]
    omega
  rw [hs, hs, hs]
noncomputable def epR (p : MeshD) (a b : Int) : Value := if (efacesD p a b).length = 0 then vecV 0 0 0 else epV p a b (efacesD p a b)
theorem mem_hits {s : List (List Int)} {e : Int × Int} {k : Nat} {z : Int} (h : z ∈ hitsTo s e k) : ∃ i j : Nat, i < k ∧ j < 4 ∧ z = (i : Int) ∧ und (stepAt (faceAt s i) j) = e := by
  simp only [hitsTo, List.mem_flatten, List.mem_map, List.mem_range] at h
  obtain ⟨l, ⟨i, hi, rfl⟩, hz⟩ := h
  simp only [stepHits, List.mem_map, List.mem_filter, List.mem_range, decide_eq_true_eq] at hz
  obtain ⟨j, ⟨hj, he⟩, rfl⟩ := hz
  exact ⟨i, j, hi, hj, rfl, he⟩
/-- What faces of an edge tell of it. -/
structure OnEdge (p : MeshD) (a b : Int) (on : List Int) : Prop where
  ok : meshOk p
  a0 : 0 ≤ a ∧ a < (p.nV : Int)
  b0 : 0 ≤ b ∧ b < (p.nV : Int)
  on : ∀ z ∈ on, 0 ≤ z ∧ z < (p.nF : Int)
theorem OnEdge.swap {p : MeshD} {a b : Int} {on : List Int} (h : OnEdge p a b on) : OnEdge p b a on := ⟨h.ok, h.b0, h.a0, h.on⟩
theorem step_in {nV : Nat} {f : List Int} (h : faceOk nV f) {j : Nat} (hj : j < 4) : (0 ≤ (stepAt f j).1 ∧ (stepAt f j).1 < (nV : Int)) ∧ 0 ≤ (stepAt f j).2 ∧ (stepAt f j).2 < (nV : Int) := by
  obtain ⟨h4, hA, _⟩ := h
  have h1 := hA j (by omega)
  have h2 := hA ((j + 1) % f.length) (Nat.mod_lt _ (by omega))
  simp only [stepAt]
  omega
theorem onEdge_of {p : MeshD} {a b : Int} (h : ¬ (efacesD p a b).length = 0) : OnEdge p a b (efacesD p a b) := by
  unfold efacesD at h ⊢
  split at h
  · rename_i hok
    have hm := meshOkB_true.1 hok
    rw [if_pos hok]
    obtain ⟨z, hz⟩ := List.exists_mem_of_length_pos (by omega : 0 < (hitsTo p.faces (und (a, b)) p.nF).length)
    obtain ⟨i, j, hi, hj, _, he⟩ := mem_hits hz
    have hs := step_in (hm.2.2.2.1 i hi) hj
    have hu := (und_iff (stepAt (faceAt p.faces i) j).1 (stepAt (faceAt p.faces i) j).2 a b).1 he
    refine ⟨hm, ?_, ?_, fun z hz => ?_⟩
    · rcases hu with ⟨h1, h2⟩ | ⟨h1, h2⟩ <;> omega
    · rcases hu with ⟨h1, h2⟩ | ⟨h1, h2⟩ <;> omega
    · obtain ⟨i, j, hi, hj, rfl, _⟩ := mem_hits hz
      omega
  · exact absurd rfl h
theorem vtx_B {p : MeshD} (h : meshOk p) {x : Int} (hx : 0 ≤ x ∧ x < (p.nV : Int)) : VecB (vtx p x) := by
  have := h.2.2.1 x.toNat (by omega)
  simp only [vecOkD, vecOk, Bool.and_eq_true, inB_true] at this
  exact ⟨by unfold vtx; omega, by unfold vtx; omega, by unfold vtx; omega⟩
theorem fdiv4_B {s : Int} (h : -4000000 ≤ s ∧ s ≤ 4000000) : -1000000 ≤ fdivI s 4 ∧ fdivI s 4 ≤ 1000000 := by
  unfold fdivI
  split <;> omega
theorem fpD_in {p : MeshD} (h : meshOk p) {x : Int} (hx : 0 ≤ x ∧ x < (p.nF : Int)) : (-1000000 ≤ (fpD p x).f0 ∧ (fpD p x).f0 ≤ 1000000) ∧ (-1000000 ≤ (fpD p x).f1 ∧ (fpD p x).f1 ≤ 1000000) ∧ (-1000000 ≤ (fpD p x).f2 ∧ (fpD p x).f2 ≤ 1000000) := by
  have hf := faceV_of h (k := x.toNat) (by omega)
  exact ⟨fdiv4_B (sum_in (j := 4) (by omega) hf.b0), fdiv4_B (sum_in (j := 4) (by omega) hf.b1), fdiv4_B (sum_in (j := 4) (by omega) hf.b2)⟩
theorem fpD_B {p : MeshD} (h : meshOk p) {x : Int} (hx : 0 ≤ x ∧ x < (p.nF : Int)) : VecB (fpD p x) := by
  obtain ⟨h0, h1, h2⟩ := fpD_in h hx
  exact ⟨by omega, by omega, by omega⟩
theorem fpV_D (p : MeshD) (x : Int) : fpV p.verts (faceAt p.faces x.toNat) = vecV (fpD p x).f0 (fpD p x).f1 (fpD p x).f2 := rfl
theorem two_B {x y : VecD} (hx : VecB x) (hy : VecB y) : VecsB [x, y] 2 := fun i hi => by
  match i, hi with
  | 0, _ => exact hx
  | 1, _ => exact hy
theorem four_B {x y z u : VecD} (hx : VecB x) (hy : VecB y) (hz : VecB z) (hu : VecB u) : VecsB [x, y, z, u] 4 := fun i hi => by
  match i, hi with
  | 0, _ => exact hx
  | 1, _ => exact hy
  | 2, _ => exact hz
  | 3, _ => exact hu
theorem at_two {x y : VecD} : ∀ i, i < 2 → ∀ j, j < 3 → [Value.int .i64 x.f0, .int .i64 x.f1, .int .i64 x.f2, .int .i64 y.f0, .int .i64 y.f1, .int .i64 y.f2][i * 3 + j]? = (VecD.at [x, y] i)[j]? := by
  intro i hi j hj
  match i, j, hi, hj with
  | 0, 0, _, _ => rfl
  | 0, 1, _, _ => rfl
  | 0, 2, _, _ => rfl
  | 1, 0, _, _ => rfl
  | 1, 1, _, _ => rfl
  | 1, 2, _, _ => rfl
theorem at_four {x y z u : VecD} : ∀ i, i < 4 → ∀ j, j < 3 → ([Value.int .i64 x.f0, .int .i64 x.f1, .int .i64 x.f2, .int .i64 y.f0, .int .i64 y.f1, .int .i64 y.f2] ++ [Value.int .i64 z.f0, .int .i64 z.f1, .int .i64 z.f2, .int .i64 u.f0, .int .i64 u.f1, .int .i64 u.f2])[i * 3 + j]? = (VecD.at [x, y, z, u] i)[j]? := by
  intro i hi j hj
  match i, j, hi, hj with
  | 0, 0, _, _ => rfl
  | 0, 1, _, _ => rfl
  | 0, 2, _, _ => rfl
  | 1, 0, _, _ => rfl
  | 1, 1, _, _ => rfl
  | 1, 2, _, _ => rfl
  | 2, 0, _, _ => rfl
  | 2, 1, _, _ => rfl
  | 2, 2, _, _ => rfl
  | 3, 0, _, _ => rfl
  | 3, 1, _, _ => rfl
  | 3, 2, _, _ => rfl
theorem own_two (W : World) (x y : VecD) (base : Nat) (hb : base ≤ W.heap.size) : (W.alloc (.cells #[.int .i64 x.f0, .int .i64 x.f1, .int .i64 x.f2, .int .i64 y.f0, .int .i64 y.f1, .int .i64 y.f2] 35)).ownsRow base 35 3 (.slice (some ⟨W.heap.size, 0, none⟩) 2 2) 2 [.int .i64 x.f0, .int .i64 x.f1, .int .i64 x.f2, .int .i64 y.f0, .int .i64 y.f1, .int .i64 y.f2] :=
  ⟨rfl, .inr ⟨W.heap.size, 2, _, rfl, hb, heap_alloc_new _ _, Nat.le_refl _, by decide, rfl, rfl⟩⟩
theorem sl_of_own {w : World} {base n : Nat} {e : TypeId} {v : Value} {xs : List Value} {L : List VecD} (h : w.ownsRow base e 3 v n xs) (hC : ∀ i, i < n → ∀ j, j < 3 → xs[i * 3 + j]? = (VecD.at L i)[j]?) : ∃ a cap, v = .slice a n cap ∧ Sl w a 3 n (VecD.at L) := by
  obtain ⟨a, cap, rfl, ho⟩ := ow_of_ownsRow h hC
  exact ⟨a, cap, rfl, ho.sl⟩
theorem info_VecA : (Try.prog.info? 35).map (fun i => (i.zero, i.size, i.bytes)) = some (some (.agg #[.int .i64 0, .int .i64 0, .int .i64 0]), 3, 24) := by kernel_rfl
set_option maxRecDepth 100000 in
set_option maxHeartbeats 2000000 in
theorem impl_edgePoint_c (v : Value) (p : MeshD) (x y : Int) (fa : Option Addr) (fc : Nat) (on : List Int) (w : World) (hr : MeshR w v p) (hs : MeshSz 1048576 p) (hon : OnEdge p x y on) (hf : Sl w fa 1 on.length (intAt on)) :
    Calls Try.prog 72 #[v, .agg #[.int .i64 x, .int .i64 y], .slice fa on.length fc] w fun e w' => e = .returned (epV p x y on) ∧ Below w.heap.size w w' := by
  have HFC := Lib.hid (fun (z : Int) (hz : 0 ≤ z ∧ z < (p.nF : Int)) W (h : Below w.heap.size w W) => facePoint_c v p z.toNat W (hr.below h) hs hon.ok (by omega))
  obtain ⟨a, c, a', c', rfl, h1, _⟩ := hr
  obtain ⟨ix, rfl⟩ := Int.eq_ofNat_of_zero_le hon.a0.1
  obtain ⟨iy, rfl⟩ := Int.eq_ofNat_of_zero_le hon.b0.1
  have hx1 := hon.a0.2
  have hy1 := hon.b0.2
  have hx0 : ix < p.nV := by omega
  have hy0 : iy < p.nV := by omega
  have hB1 := vtx_B hon.ok hon.a0
  have hB2 := vtx_B hon.ok hon.b0
  obtain ⟨b, o, rfl, hb, hc⟩ := h1 (by omega)
  have c0 : w.cell? ⟨b, o + ix * 3, none⟩ = some (.int .i64 (vtx p ix).f0) := hc ix hx0 0 (by omega)
  have c1 : w.cell? ⟨b, o + ix * 3 + 1, none⟩ = some (.int .i64 (vtx p ix).f1) := hc ix hx0 1 (by omega)
  have c2 : w.cell? ⟨b, o + ix * 3 + 2, none⟩ = some (.int .i64 (vtx p ix).f2) := hc ix hx0 2 (by omega)
  have d0 : w.cell? ⟨b, o + iy * 3, none⟩ = some (.int .i64 (vtx p iy).f0) := hc iy hy0 0 (by omega)
  have d1 : w.cell? ⟨b, o + iy * 3 + 1, none⟩ = some (.int .i64 (vtx p iy).f1) := hc iy hy0 1 (by omega)
  have d2 : w.cell? ⟨b, o + iy * 3 + 2, none⟩ = some (.int .i64 (vtx p iy).f2) := hc iy hy0 2 (by omega)
  have hb1 : b < w.heap.size + 1 := by omega
  have hb2 : b < w.heap.size + 1 + 1 := by omega
  have hb3 : b < w.heap.size + 1 + 1 + 1 := by omega
  clear hc h1 hs
  have HF := Lib.hid hf
  clear hf
  by_cases h2 : on.length = 2
  · have hq1 : ((on.length : Int) == 2) = true := by simp; omega
    obtain ⟨z, u, rfl⟩ : ∃ z u, on = [z, u] := by
      match on, h2 with
      | [z, u], _ => exact ⟨z, u, rfl⟩
    have hz := hon.on z (by simp)
    have hu := hon.on u (by simp)
    have hB3 := fpD_B hon.ok hz
    have hB4 := fpD_B hon.ok hu
    have HE := Lib.hid (show epV p ix iy [z, u] = meanL [vtx p ix, vtx p iy, fpD p z, fpD p u] 4 4 from rfl)
    have HZ := Lib.hid (HFC.out z hz)
    have HU := Lib.hid (HFC.out u hu)
    have e1 : ((z.toNat : Nat) : Int) = z := by omega
    have e2 : ((u.toNat : Nat) : Int) = u := by omega
    rw [fpV_D, e1] at HZ
    rw [fpV_D, e2] at HU
    clear HFC hz hu e1 e2
    obtain ⟨fb, fo, rfl, hfb, hfc⟩ := HF.out (by simp)
    have f0 : w.cell? ⟨fb, fo, none⟩ = some (.int .i64 z) := by simpa [intAt] using hfc 0 (by simp) 0 (by omega)
    have f1 : w.cell? ⟨fb, fo + 1, none⟩ = some (.int .i64 u) := by simpa [intAt] using hfc 1 (by simp) 0 (by omega)
    have hfb1 : fb < w.heap.size + 1 := by omega
    have hfb2 : fb < w.heap.size + 1 + 1 := by omega
    have hfb3 : fb < w.heap.size + 1 + 1 + 1 := by omega
    clear hfc HF hon h2
    have HB := Lib.hid (four_B hB1 hB2 hB3 hB4)
    clear hB1 hB2 hB3 hB4
    have HAT := Lib.hid (at_four (x := vtx p ix) (y := vtx p iy) (z := fpD p z) (u := fpD p u))
    have HAV := Lib.hid (fun a cap W h => average_c a cap [vtx p ix, vtx p iy, fpD p z, fpD p u] 4 W HB.out (by omega) h)
    have HTW := Lib.hid (fun W bs h => own_two W (vtx p ix) (vtx p iy) bs h)
    rw [← HE.out] at HAV
    obtain ⟨R0, R1, R2, hRV⟩ : ∃ A B C, epV p ix iy [z, u] = vecV A B C := ⟨_, _, _, rfl⟩
    rw [hRV] at HAV ⊢
    clear HE hRV
    generalize vtx p ix = vx at *
    generalize vtx p iy = vy at *
    generalize fpD p z = vz at *
    generalize fpD p u = vu at *
    obtain ⟨x0, x1, x2⟩ := vx
    obtain ⟨y0, y1, y2⟩ := vy
    obtain ⟨z0, z1, z2⟩ := vz
    obtain ⟨u0, u1, u2⟩ := vu
    dsimp only at c0 c1 c2 d0 d1 d2 HZ HU HAT HTW
    obtain ⟨i0, hi, hz0, hz1, hz2⟩ := info_parts info_VecA
    go_enter Try.func72, Try.ntmps72
    go_wp2
    ((first | refine region_qt2 12 (by kernel_rfl) (by kernel_rfl) ?_ | refine region_qt 12 (by kernel_rfl) (by kernel_rfl) ?_); simp only [List.take_succ_cons, List.take_zero, List.drop_succ_cons, List.drop_zero])
    repeat (quiet_step (fail))
    (refine wpQuiet_nil ?_; intro X nX)
    go_wp2
    have HBW := Lib.hid (show Below w.heap.size w (((w.alloc (.cells #[.slice (some ⟨b, o, none⟩) p.nV c, .slice a' p.nF c'] 30)).alloc (.cells #[.int .i64 ix, .int .i64 iy] 65)).alloc (.cells #[.int .i64 0, .int .i64 0, .int .i64 0] 35)) from (by repeat (first | exact Below.refl _ _ | refine Below.drew ?_ | refine Below.alloc ?_ (by first | exact Nat.le_refl _ | (simp; done) | (simp; omega) | omega) _ | refine Below.more ?_ (by first | exact Nat.le_refl _ | (simp; done) | (simp; omega) | omega) _ _ | refine Below.setCell ?_ (by first | exact Nat.le_refl _ | (simp; done) | (simp; omega) | omega) _ | assumption)))
    have q0 : (((w.alloc (.cells #[.slice (some ⟨b, o, none⟩) p.nV c, .slice a' p.nF c'] 30)).alloc (.cells #[.int .i64 ix, .int .i64 iy] 65)).alloc (.cells #[.int .i64 0, .int .i64 0, .int .i64 0] 35)).cell? ⟨w.heap.size, 0, none⟩ = some (.slice (some ⟨b, o, none⟩) p.nV c) := by simp [go_sem]
    have q1 : (((w.alloc (.cells #[.slice (some ⟨b, o, none⟩) p.nV c, .slice a' p.nF c'] 30)).alloc (.cells #[.int .i64 ix, .int .i64 iy] 65)).alloc (.cells #[.int .i64 0, .int .i64 0, .int .i64 0] 35)).cell? ⟨w.heap.size, 1, none⟩ = some (.slice a' p.nF c') := by simp [go_sem]
    have r0 : ∀ j, j < 3 → (((w.alloc (.cells #[.slice (some ⟨b, o, none⟩) p.nV c, .slice a' p.nF c'] 30)).alloc (.cells #[.int .i64 ix, .int .i64 iy] 65)).alloc (.cells #[.int .i64 0, .int .i64 0, .int .i64 0] 35)).cell? ⟨w.heap.size + 1 + 1, j, none⟩ = some (.int .i64 0) ∧ (((w.alloc (.cells #[.slice (some ⟨b, o, none⟩) p.nV c, .slice a' p.nF c'] 30)).alloc (.cells #[.int .i64 ix, .int .i64 iy] 65)).alloc (.cells #[.int .i64 0, .int .i64 0, .int .i64 0] 35)).frozen? ⟨w.heap.size + 1 + 1, j, none⟩ = false := fun j hj => by
      match j, hj with
      | 0, _ => simp [go_sem]
      | 1, _ => simp [go_sem]
      | 2, _ => simp [go_sem]
    have hsz : (((w.alloc (.cells #[.slice (some ⟨b, o, none⟩) p.nV c, .slice a' p.nF c'] 30)).alloc (.cells #[.int .i64 ix, .int .i64 iy] 65)).alloc (.cells #[.int .i64 0, .int .i64 0, .int .i64 0] 35)).heap.size = w.heap.size + 1 + 1 + 1 := by simp
    have HOW := Lib.hid (HTW.out (more (((w.alloc (.cells #[.slice (some ⟨b, o, none⟩) p.nV c, .slice a' p.nF c'] 30)).alloc (.cells #[.int .i64 ix, .int .i64 iy] 65)).alloc (.cells #[.int .i64 0, .int .i64 0, .int .i64 0] 35)) X nX) (((w.alloc (.cells #[.slice (some ⟨b, o, none⟩) p.nV c, .slice a' p.nF c'] 30)).alloc (.cells #[.int .i64 ix, .int .i64 iy] 65)).alloc (.cells #[.int .i64 0, .int .i64 0, .int .i64 0] 35)).heap.size (by simp))
    have hsz2 : (more (((w.alloc (.cells #[.slice (some ⟨b, o, none⟩) p.nV c, .slice a' p.nF c'] 30)).alloc (.cells #[.int .i64 ix, .int .i64 iy] 65)).alloc (.cells #[.int .i64 0, .int .i64 0, .int .i64 0] 35)) X nX).heap.size = w.heap.size + 1 + 1 + 1 + X.size := by simp
    rw [hsz2, more_alloc] at HOW
    rw [more_alloc]
    clear HTW hsz2
    generalize w.heap.size + 1 + 1 + 1 + X.size = g at *
    generalize X.push (.cells #[.int .i64 x0, .int .i64 x1, .int .i64 x2, .int .i64 y0, .int .i64 y1, .int .i64 y2] 35) = X0 at *
    generalize (((w.alloc (.cells #[.slice (some ⟨b, o, none⟩) p.nV c, .slice a' p.nF c'] 30)).alloc (.cells #[.int .i64 ix, .int .i64 iy] 65)).alloc (.cells #[.int .i64 0, .int .i64 0, .int .i64 0] 35)) = W3 at *
    have g0 := cell_below HBW.out f0
    have g1 := cell_below HBW.out f1
    have w0 : w.heap.size < W3.heap.size := by omega
    have w1 : fb < W3.heap.size := by omega
    have y1 : w.heap.size + 1 + 1 < W3.heap.size := by omega
    refine region_app2 11 35 3 _ 2 2 _ [.int .i64 z0, .int .i64 z1, .int .i64 z2, .int .i64 u0, .int .i64 u1, .int .i64 u2] (by kernel_rfl) (by kernel_rfl) HOW.out ?_
    simp only [List.take_succ_cons, List.take_zero, List.drop_succ_cons, List.drop_zero]
    repeat (refine headS_step (fun K hK => ?_); go_simp; refine hK _ ?_; clear hK K)
    (refine headS_step (fun K hK => ?_); go_simp; refine ⟨_, fun zt => calls_stays (HZ.out _ (HBW.out.trans (by repeat (first | exact Below.refl _ _ | refine Below.drew ?_ | refine Below.alloc ?_ (by first | exact Nat.le_refl _ | (simp; done) | (simp; omega) | omega) _ | refine Below.more ?_ (by first | exact Nat.le_refl _ | (simp; done) | (simp; omega) | omega) _ _ | refine Below.setCell ?_ (by first | exact Nat.le_refl _ | (simp; done) | (simp; omega) | omega) _ | assumption)))), hK _ ?_⟩; clear hK K)
    repeat (refine headS_step (fun K hK => ?_); go_simp; refine hK _ ?_; clear hK K)
    (refine headS_step (fun K hK => ?_); go_simp; refine ⟨_, fun zt => calls_stays (HU.out _ (HBW.out.trans (by repeat (first | exact Below.refl _ _ | refine Below.drew ?_ | refine Below.alloc ?_ (by first | exact Nat.le_refl _ | (simp; done) | (simp; omega) | omega) _ | refine Below.more ?_ (by first | exact Nat.le_refl _ | (simp; done) | (simp; omega) | omega) _ _ | refine Below.setCell ?_ (by first | exact Nat.le_refl _ | (simp; done) | (simp; omega) | omega) _ | assumption)))), hK _ ?_⟩; clear hK K)
    repeat (refine headS_step (fun K hK => ?_); go_simp; refine hK _ ?_; clear hK K)
    refine headS_nil ?_
    refine tail_app2 (t := 28) _ _ (by go_simp) (fun w => by go_simp) (fun b => by go_simp) rfl Try.underlying28 hi hz0 hz1 hz2 rfl (by decide) (fun b => by first | rfl | go_simp) (fun b => by first | rfl | go_simp) rfl ?h1 (by decide) (by decide) (fun b v' => ?hr)
    case h1 =>
      intro u hu
      simp only [List.mem_cons, List.not_mem_nil, or_false] at hu
      rcases hu with rfl | rfl | rfl | rfl | rfl | rfl <;> rfl
    refine app2_quiet (u := v') (by go_simp) (fun w => by go_simp) ?_
    refine app2_done (fun X1 d1 hown1 => ?_)
    simp only [Act.put, List.setIfInBounds_toArray, List.set_cons_zero, List.set_cons_succ]
    obtain ⟨a4, c4, rfl, hsl⟩ := sl_of_own hown1 HAT.out
    have HSL := Lib.hid hsl
    obtain ⟨s0, t0⟩ := r0 0 (by omega)
    obtain ⟨s1, t1⟩ := r0 1 (by omega)
    obtain ⟨s2, t2⟩ := r0 2 (by omega)
    clear hown1 hsl r0 q0 q1 g0 g1
    go_wp2_with (go_at_call 92; refine (HAV.out _ _ _ (HSL.out.below (by repeat (first | exact Below.refl _ _ | refine Below.drew ?_ | refine Below.alloc ?_ (by first | exact Nat.le_refl _ | (simp; done) | (simp; omega) | omega) _ | refine Below.more ?_ (by first | exact Nat.le_refl _ | (simp; done) | (simp; omega) | omega) _ _ | refine Below.setCell ?_ (by first | exact Nat.le_refl _ | (simp; done) | (simp; omega) | omega) _ | assumption)))).mono ?_; rintro e wn ⟨rfl, hbn⟩; obtain ⟨X, nX, rfl⟩ := Below.ext hbn; clear hbn)
    exact bodyPost_ret (v := vecV R0 R1 R2) (by simp [results, Try.results72, go_sem, s0, s1, s2, t0, t1, t2, y1]) rfl ⟨rfl, Below.trans HBW.out (by repeat (first | exact Below.refl _ _ | refine Below.drew ?_ | refine Below.alloc ?_ (by first | exact Nat.le_refl _ | (simp; done) | (simp; omega) | omega) _ | refine Below.more ?_ (by first | exact Nat.le_refl _ | (simp; done) | (simp; omega) | omega) _ _ | refine Below.setCell ?_ (by first | exact Nat.le_refl _ | (simp; done) | (simp; omega) | omega) _ | assumption))⟩
  · have hq1 : ((on.length : Int) == 2) = false := by simp; omega
    have HE := Lib.hid (show epV p ix iy on = meanL [vtx p ix, vtx p iy] 2 2 from by simp [epV, epL, h2])
    have HB := Lib.hid (two_B hB1 hB2)
    have HAT := Lib.hid (at_two (x := vtx p ix) (y := vtx p iy))
    have HAV := Lib.hid (fun a cap W h => average_c a cap [vtx p ix, vtx p iy] 2 W HB.out (by omega) h)
    have HTW := Lib.hid (fun W bs h => own_two W (vtx p ix) (vtx p iy) bs h)
    rw [← HE.out] at HAV
    obtain ⟨R0, R1, R2, hRV⟩ : ∃ A B C, epV p ix iy on = vecV A B C := ⟨_, _, _, rfl⟩
    rw [hRV] at HAV ⊢
    clear HE hRV HFC hon HF h2 hB1 hB2
    generalize vtx p ix = vx at *
    generalize vtx p iy = vy at *
    obtain ⟨x0, x1, x2⟩ := vx
    obtain ⟨y0, y1, y2⟩ := vy
    dsimp only at c0 c1 c2 d0 d1 d2 HAT HTW
    generalize on.length = ol at *
    go_enter Try.func72, Try.ntmps72
    go_wp2
    ((first | refine region_qt2 12 (by kernel_rfl) (by kernel_rfl) ?_ | refine region_qt 12 (by kernel_rfl) (by kernel_rfl) ?_); simp only [List.take_succ_cons, List.take_zero, List.drop_succ_cons, List.drop_zero])
    repeat (quiet_step (fail))
    (refine wpQuiet_nil ?_; intro X nX)
    go_wp2_with fail
    have HBW := Lib.hid (show Below w.heap.size w ((more (((w.alloc (.cells #[.slice (some ⟨b, o, none⟩) p.nV c, .slice a' p.nF c'] 30)).alloc (.cells #[.int .i64 ix, .int .i64 iy] 65)).alloc (.cells #[.int .i64 0, .int .i64 0, .int .i64 0] 35)) X nX).alloc (.cells #[.int .i64 x0, .int .i64 x1, .int .i64 x2, .int .i64 y0, .int .i64 y1, .int .i64 y2] 35)) from (by repeat (first | exact Below.refl _ _ | refine Below.drew ?_ | refine Below.alloc ?_ (by first | exact Nat.le_refl _ | (simp; done) | (simp; omega) | omega) _ | refine Below.more ?_ (by first | exact Nat.le_refl _ | (simp; done) | (simp; omega) | omega) _ _ | refine Below.setCell ?_ (by first | exact Nat.le_refl _ | (simp; done) | (simp; omega) | omega) _ | assumption)))
    have q0 : ((more (((w.alloc (.cells #[.slice (some ⟨b, o, none⟩) p.nV c, .slice a' p.nF c'] 30)).alloc (.cells #[.int .i64 ix, .int .i64 iy] 65)).alloc (.cells #[.int .i64 0, .int .i64 0, .int .i64 0] 35)) X nX).alloc (.cells #[.int .i64 x0, .int .i64 x1, .int .i64 x2, .int .i64 y0, .int .i64 y1, .int .i64 y2] 35)).cell? ⟨w.heap.size, 0, none⟩ = some (.slice (some ⟨b, o, none⟩) p.nV c) := by simp [go_sem]
    have q1 : ((more (((w.alloc (.cells #[.slice (some ⟨b, o, none⟩) p.nV c, .slice a' p.nF c'] 30)).alloc (.cells #[.int .i64 ix, .int .i64 iy] 65)).alloc (.cells #[.int .i64 0, .int .i64 0, .int .i64 0] 35)) X nX).alloc (.cells #[.int .i64 x0, .int .i64 x1, .int .i64 x2, .int .i64 y0, .int .i64 y1, .int .i64 y2] 35)).cell? ⟨w.heap.size, 1, none⟩ = some (.slice a' p.nF c') := by simp [go_sem]
    have r0 : ∀ j, j < 3 → ((more (((w.alloc (.cells #[.slice (some ⟨b, o, none⟩) p.nV c, .slice a' p.nF c'] 30)).alloc (.cells #[.int .i64 ix, .int .i64 iy] 65)).alloc (.cells #[.int .i64 0, .int .i64 0, .int .i64 0] 35)) X nX).alloc (.cells #[.int .i64 x0, .int .i64 x1, .int .i64 x2, .int .i64 y0, .int .i64 y1, .int .i64 y2] 35)).cell? ⟨w.heap.size + 1 + 1, j, none⟩ = some (.int .i64 0) ∧ ((more (((w.alloc (.cells #[.slice (some ⟨b, o, none⟩) p.nV c, .slice a' p.nF c'] 30)).alloc (.cells #[.int .i64 ix, .int .i64 iy] 65)).alloc (.cells #[.int .i64 0, .int .i64 0, .int .i64 0] 35)) X nX).alloc (.cells #[.int .i64 x0, .int .i64 x1, .int .i64 x2, .int .i64 y0, .int .i64 y1, .int .i64 y2] 35)).frozen? ⟨w.heap.size + 1 + 1, j, none⟩ = false := fun j hj => by
      match j, hj with
      | 0, _ => simp [go_sem]
      | 1, _ => simp [go_sem]
      | 2, _ => simp [go_sem]
    have HOW := Lib.hid (HTW.out (more (((w.alloc (.cells #[.slice (some ⟨b, o, none⟩) p.nV c, .slice a' p.nF c'] 30)).alloc (.cells #[.int .i64 ix, .int .i64 iy] 65)).alloc (.cells #[.int .i64 0, .int .i64 0, .int .i64 0] 35)) X nX) (w.heap.size + 3) (by simp; try omega))
    have hsz : (more (((w.alloc (.cells #[.slice (some ⟨b, o, none⟩) p.nV c, .slice a' p.nF c'] 30)).alloc (.cells #[.int .i64 ix, .int .i64 iy] 65)).alloc (.cells #[.int .i64 0, .int .i64 0, .int .i64 0] 35)) X nX).heap.size = w.heap.size + 1 + 1 + 1 + X.size := by simp
    rw [hsz] at HOW
    clear HTW hsz
    generalize w.heap.size + 1 + 1 + 1 + X.size = g at *
    generalize ((more (((w.alloc (.cells #[.slice (some ⟨b, o, none⟩) p.nV c, .slice a' p.nF c'] 30)).alloc (.cells #[.int .i64 ix, .int .i64 iy] 65)).alloc (.cells #[.int .i64 0, .int .i64 0, .int .i64 0] 35)) X nX).alloc (.cells #[.int .i64 x0, .int .i64 x1, .int .i64 x2, .int .i64 y0, .int .i64 y1, .int .i64 y2] 35)) = W1 at *
    obtain ⟨a4, c4, hv4, hsl⟩ := sl_of_own HOW.out HAT.out
    simp only [Value.slice.injEq, true_and] at hv4
    obtain ⟨rfl, rfl⟩ := hv4
    have HSL := Lib.hid hsl
    obtain ⟨s0, t0⟩ := r0 0 (by omega)
    obtain ⟨s1, t1⟩ := r0 1 (by omega)
    obtain ⟨s2, t2⟩ := r0 2 (by omega)
    have y1 := World.block_lt_of_cell? _ _ s0
    clear hsl r0 q0 q1
    go_wp2_with (go_at_call 92; refine (HAV.out _ _ _ (HSL.out.below (by repeat (first | exact Below.refl _ _ | refine Below.drew ?_ | refine Below.alloc ?_ (by first | exact Nat.le_refl _ | (simp; done) | (simp; omega) | omega) _ | refine Below.more ?_ (by first | exact Nat.le_refl _ | (simp; done) | (simp; omega) | omega) _ _ | refine Below.setCell ?_ (by first | exact Nat.le_refl _ | (simp; done) | (simp; omega) | omega) _ | assumption)))).mono ?_; rintro e wn ⟨rfl, hbn⟩; obtain ⟨X, nX, rfl⟩ := Below.ext hbn; clear hbn)
    exact bodyPost_ret (v := vecV R0 R1 R2) (by simp [results, Try.results72, go_sem, s0, s1, s2, t0, t1, t2, y1]) rfl ⟨rfl, Below.trans HBW.out (by repeat (first | exact Below.refl _ _ | refine Below.drew ?_ | refine Below.alloc ?_ (by first | exact Nat.le_refl _ | (simp; done) | (simp; omega) | omega) _ | refine Below.more ?_ (by first | exact Nat.le_refl _ | (simp; done) | (simp; omega) | omega) _ _ | refine Below.setCell ?_ (by first | exact Nat.le_refl _ | (simp; done) | (simp; omega) | omega) _ | assumption))⟩
end Go.Proofs.Ytbmhehjllchpoaa
