/- Contract of the reference's VertexPoint. -/
import Derived.Test.YtpfmcobkfofbjaaGreatVertexPoint
namespace Go.Proofs.YtpfmcobkfofbjaaGreat
open Go Go.RowKit
theorem nbOf_ups {L : List (Int × Int)} (h : Ups L) (v : Int) : (nbOf L v).length ≤ L.length := by
  induction L with
  | nil => simp [nbOf]
  | cons e L ih =>
    have h1 := ih (fun x hx => h x (List.mem_cons_of_mem _ hx))
    have h2 := h e (List.mem_cons_self ..)
    have h3 : (endsE v e).length ≤ 1 := by
      unfold endsE
      by_cases a : e.1 = v <;> by_cases b : e.2 = v <;> simp [a, b]
      omega
    simp only [nbOf, List.flatMap_cons, List.length_append, List.length_cons] at h1 ⊢
    omega
def vecVals (L : List VecD) : List Value := flat 3 L.length (VecD.at L)
theorem vecVals_snoc (L : List VecD) (x : VecD) : vecVals (L ++ [x]) = vecVals L ++ [.int .i64 x.f0, .int .i64 x.f1, .int .i64 x.f2] := by
  unfold vecVals
  rw [List.length_append, List.length_singleton, flat_succ]
  have h1 : flat 3 L.length (VecD.at (L ++ [x])) = flat 3 L.length (VecD.at L) := flat_congr fun i hi => by
    simp [VecD.at, List.getD_eq_getElem?_getD, List.getElem?_append_left hi]
  rw [h1]
  simp [VecD.at]
theorem vecVals_two (L : List VecD) (x y : VecD) : vecVals (L ++ [x, y]) = vecVals L ++ [.int .i64 x.f0, .int .i64 x.f1, .int .i64 x.f2, .int .i64 y.f0, .int .i64 y.f1, .int .i64 y.f2] := by
  rw [show L ++ [x, y] = (L ++ [x]) ++ [y] from by simp, vecVals_snoc, vecVals_snoc, List.append_assoc]
  rfl
theorem sl_vecs {w : World} {base : Nat} {e : TypeId} {v : Value} {L : List VecD} (h : w.ownsRow base e 3 v L.length (vecVals L)) : ∃ a cap, v = .slice a L.length cap ∧ Sl w a 3 L.length (VecD.at L) :=
  sl_of_own h (flat_get (s := 3) (n := L.length) (C := VecD.at L) (fun _ _ => rfl))
/-- The terms of an inner vertex: its own part, the points of its faces, itself and each neighbour. -/
def terms (p : MeshD) (c x : VecD) (faces N : List Int) : List VecD := ([c] ++ faces.map (fpD p)) ++ N.flatMap fun z => [x, vtx p z]
theorem sum_terms (g : VecD → Int) (p : MeshD) (c x : VecD) (faces N : List Int) : ((terms p c x faces N).map g).sum = g c + sumH g p faces + (g x * N.length + sumG g p N) := by
  have h : ((N.flatMap fun z => [x, vtx p z]).map g).sum = g x * N.length + sumG g p N := by
    induction N with
    | nil => simp [sumG]
    | cons z N ih =>
      simp only [List.flatMap_cons, List.map_append, List.sum_append, ih, sumG, List.map_cons, List.sum_cons, List.length_cons, Int.natCast_add, Int.mul_add, List.map_nil, List.sum_nil]
      omega
  rw [terms, List.map_append, List.sum_append, h, List.map_append, List.sum_append]
  simp [sumH, List.map_map, Function.comp_def]
theorem terms_len (p : MeshD) (c x : VecD) (faces N : List Int) : (terms p c x faces N).length = 1 + faces.length + 2 * N.length := by
  have h : (N.flatMap fun z => [x, vtx p z]).length = 2 * N.length := by
    induction N with
    | nil => rfl
    | cons z N ih => simp only [List.flatMap_cons, List.length_append, ih, List.length_cons, List.length_nil]; omega
  rw [terms, List.length_append, h, List.length_append, List.length_map]
  simp
theorem terms_face (p : MeshD) (c x : VecD) (faces : List Int) (z : Int) : terms p c x (faces ++ [z]) [] = terms p c x faces [] ++ [fpD p z] := by simp [terms]
theorem terms_nb (p : MeshD) (c x : VecD) (faces N : List Int) (z : Int) : terms p c x faces (N ++ [z]) = terms p c x faces N ++ [x, vtx p z] := by simp [terms]
theorem terms_B {p : MeshD} {c x : VecD} {faces N : List Int} (hc : VecB c) (hx : VecB x) (hf : ∀ z ∈ faces, VecB (fpD p z)) (hN : ∀ z ∈ N, VecB (vtx p z)) : VecsB (terms p c x faces N) (terms p c x faces N).length := fun i hi => by
  have hm : (terms p c x faces N).getD i default ∈ terms p c x faces N := by
    rw [List.getD_eq_getElem?_getD, List.getElem?_eq_getElem hi]
    exact List.getElem_mem hi
  generalize (terms p c x faces N).getD i default = y at *
  simp only [terms, List.mem_append, List.mem_singleton, List.mem_map, List.mem_flatMap, List.mem_cons, List.not_mem_nil, or_false] at hm
  rcases hm with (rfl | ⟨z, hz, rfl⟩) | ⟨z, hz, rfl | rfl⟩
  · exact hc
  · exact hf z hz
  · exact hx
  · exact hN z hz
theorem at_three {x y z : VecD} : ∀ i, i < 3 → ∀ j, j < 3 → [Value.int .i64 x.f0, .int .i64 x.f1, .int .i64 x.f2, .int .i64 y.f0, .int .i64 y.f1, .int .i64 y.f2, .int .i64 z.f0, .int .i64 z.f1, .int .i64 z.f2][i * 3 + j]? = (VecD.at [x, y, z] i)[j]? := by
  intro i hi j hj
  match i, j, hi, hj with
  | 0, 0, _, _ => rfl
  | 0, 1, _, _ => rfl
  | 0, 2, _, _ => rfl
  | 1, 0, _, _ => rfl
  | 1, 1, _, _ => rfl
  | 1, 2, _, _ => rfl
  | 2, 0, _, _ => rfl
  | 2, 1, _, _ => rfl
  | 2, 2, _, _ => rfl
theorem sum_three (g : VecD → Int) (x y z : VecD) : sumL g [x, y, z] 3 = g x + g y + g z := by
  simp [sumL, List.range_succ]
  try omega
theorem wpList_append_vec (w : World) {ops : Array Oper} {rest : List Oper} {o : Oper} {a : Act} {Q : Exit → Act → World → Prop} (hgd : o.guard = none) (s x : Operand)
    (ho : o.op = .call { callee := .builtin .append, args := #[s, x], argTypes := #[27, 27] }) (base : Nat) (v : Value) (L : List VecD) (hs : a.eval s = v) (hown : w.ownsRow base 43 3 v L.length (vecVals L))
    (ad : Addr) (c : Nat) (hx : a.eval x = .slice (some ad) 1 c) (p : VecD) (hn0 : w.cell? ad = some (.int .i64 p.f0)) (hn1 : w.cell? (ad.add 1) = some (.int .i64 p.f1)) (hn2 : w.cell? (ad.add 2) = some (.int .i64 p.f2)) (hl : L.length ≤ 1048576) (hbase : base ≤ w.heap.size)
    (hK : ∀ v' w', w'.ownsRow base 43 3 v' (L ++ [p]).length (vecVals (L ++ [p])) → w.grownBy w' v.ownBlock → (v'.ownBlock = v.ownBlock ∨ v'.ownBlock = some w.heap.size) → wpList Tryz.prog ops Q rest (a.put o.dst v') w') :
    wpList Tryz.prog ops Q (o :: rest) a w := by
  obtain ⟨i0, hi, hz0, hz1, hz2⟩ := info_parts info_VecA
  refine wpList_append_own_at w hgd s x 27 ho base 43 i0 _ 3 24 Tryz.underlying27 hi hz0 hz1 hz2 rfl (by decide) v L.length _ hs hown ad 1 c [.int .i64 p.f0, .int .i64 p.f1, .int .i64 p.f2] hx rfl ?_ ?_ (by simp only [maxLen]; omega) (by omega) hbase ?_
  · intro j u hu
    match j, hu with
    | 0, hu =>
      obtain rfl : Value.int .i64 p.f0 = u := by simpa using hu
      simpa [Addr.add] using hn0
    | 1, hu =>
      obtain rfl : Value.int .i64 p.f1 = u := by simpa using hu
      exact hn1
    | 2, hu =>
      obtain rfl : Value.int .i64 p.f2 = u := by simpa using hu
      exact hn2
    | j + 3, hu => simp at hu
  · intro u hu
    simp only [List.mem_cons, List.not_mem_nil, or_false] at hu
    rcases hu with rfl | rfl | rfl <;> rfl
  intro v' w' ho' hg hnil hloc
  exact hK v' w' (by rw [List.length_append, List.length_singleton, vecVals_snoc]; exact ho') hg hloc
end Go.Proofs.YtpfmcobkfofbjaaGreat
