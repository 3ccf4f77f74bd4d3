/- SubG, with Terms, SubF ahead of it. -/
import Derived.Test.YtpfmcobkfofbjaaVertexPoint
import Derived.Test.YtpfmcobkfofbjaaSubMath
import Derived.Test.YtpfmcobkfofbjaaApp4
namespace Go.Proofs.Ytpfmcobkfofbjaa
open Go Go.RowKit
theorem nbOf_ups {L : List (Int × Int)} (h : Ups L) (v : Int) : (nbOf L v).length ≤ L.length := by
  induction L with
  | nil => simp [nbOf]
  | cons e L ih =>
    have h1 := ih (fun x hx => h x (List.mem_cons_of_mem _ hx))
    have h2 := h e (List.mem_cons_self ..)
    have h3 : (endsE v e).length ≤ 1 := by
      unfold endsE
      by_cases a : e.1 = v <;> by_cases b : e.2 = v <;> simp [a, b]
      omega
    simp only [nbOf, List.flatMap_cons, List.length_append, List.length_cons] at h1 ⊢
    omega
def vecVals (L : List VecD) : List Value := flat 3 L.length (VecD.at L)
theorem vecVals_snoc (L : List VecD) (x : VecD) : vecVals (L ++ [x]) = vecVals L ++ [.int .i64 x.f0, .int .i64 x.f1, .int .i64 x.f2] := by
  unfold vecVals
  rw [List.length_append, List.length_singleton, flat_succ]
  have h1 : flat 3 L.length (VecD.at (L ++ [x])) = flat 3 L.length (VecD.at L) := flat_congr fun i hi => by
    simp [VecD.at, List.getD_eq_getElem?_getD, List.getElem?_append_left hi]
  rw [h1]
  simp [VecD.at]
theorem vecVals_two (L : List VecD) (x y : VecD) : vecVals (L ++ [x, y]) = vecVals L ++ [.int .i64 x.f0, .int .i64 x.f1, .int .i64 x.f2, .int .i64 y.f0, .int .i64 y.f1, .int .i64 y.f2] := by
  rw [show L ++ [x, y] = (L ++ [x]) ++ [y] from by simp, vecVals_snoc, vecVals_snoc, List.append_assoc]
  rfl
theorem sl_vecs {w : World} {base : Nat} {e : TypeId} {v : Value} {L : List VecD} (h : w.ownsRow base e 3 v L.length (vecVals L)) : ∃ a cap, v = .slice a L.length cap ∧ Sl w a 3 L.length (VecD.at L) :=
  sl_of_own h (flat_get (s := 3) (n := L.length) (C := VecD.at L) (fun _ _ => rfl))
/-- The terms of an inner vertex: its own part, the points of its faces, itself and each neighbour. -/
def terms (p : MeshD) (c x : VecD) (faces N : List Int) : List VecD := ([c] ++ faces.map (fpD p)) ++ N.flatMap fun z => [x, vtx p z]
theorem sum_terms (g : VecD → Int) (p : MeshD) (c x : VecD) (faces N : List Int) : ((terms p c x faces N).map g).sum = g c + sumH g p faces + (g x * N.length + sumG g p N) := by
  have h : ((N.flatMap fun z => [x, vtx p z]).map g).sum = g x * N.length + sumG g p N := by
    induction N with
    | nil => simp [sumG]
    | cons z N ih =>
      simp only [List.flatMap_cons, List.map_append, List.sum_append, ih, sumG, List.map_cons, List.sum_cons, List.length_cons, Int.natCast_add, Int.mul_add, List.map_nil, List.sum_nil]
      omega
  rw [terms, List.map_append, List.sum_append, h, List.map_append, List.sum_append]
  simp [sumH, List.map_map, Function.comp_def]
theorem terms_len (p : MeshD) (c x : VecD) (faces N : List Int) : (terms p c x faces N).length = 1 + faces.length + 2 * N.length := by
  have h : (N.flatMap fun z => [x, vtx p z]).length = 2 * N.length := by
    induction N with
    | nil => rfl
    | cons z N ih => simp only [List.flatMap_cons, List.length_append, ih, List.length_cons, List.length_nil]; omega
  rw [terms, List.length_append, h, List.length_append, List.length_map]
  simp
theorem terms_face (p : MeshD) (c x : VecD) (faces : List Int) (z : Int) : terms p c x (faces ++ [z]) [] = terms p c x faces [] ++ [fpD p z] := by simp [terms]
theorem terms_nb (p : MeshD) (c x : VecD) (faces N : List Int) (z : Int) : terms p c x faces (N ++ [z]) = terms p c x faces N ++ [x, vtx p z] := by simp [terms]
theorem terms_B {p : MeshD} {c x : VecD} {faces N : List Int} (hc : VecB c) (hx : VecB x) (hf : ∀ z ∈ faces, VecB (fpD p z)) (hN : ∀ z ∈ N, VecB (vtx p z)) : VecsB (terms p c x faces N) (terms p c x faces N).length := fun i hi => by
  have hm : (terms p c x faces N).getD i default ∈ terms p c x faces N := by
    rw [List.getD_eq_getElem?_getD, List.getElem?_eq_getElem hi]
    exact List.getElem_mem hi
  generalize (terms p c x faces N).getD i default = y at *
  simp only [terms, List.mem_append, List.mem_map, List.mem_flatMap, List.mem_cons, List.not_mem_nil, or_false] at hm
  rcases hm with (rfl | ⟨z, hz, rfl⟩) | ⟨z, hz, rfl | rfl⟩
  · exact hc
  · exact hf z hz
  · exact hx
  · exact hN z hz
theorem at_three {x y z : VecD} : ∀ i, i < 3 → ∀ j, j < 3 → [Value.int .i64 x.f0, .int .i64 x.f1, .int .i64 x.f2, .int .i64 y.f0, .int .i64 y.f1, .int .i64 y.f2, .int .i64 z.f0, .int .i64 z.f1, .int .i64 z.f2][i * 3 + j]? = (VecD.at [x, y, z] i)[j]? := by
  intro i hi j hj
  match i, j, hi, hj with
  | 0, 0, _, _ => rfl
  | 0, 1, _, _ => rfl
  | 0, 2, _, _ => rfl
  | 1, 0, _, _ => rfl
  | 1, 1, _, _ => rfl
  | 1, 2, _, _ => rfl
  | 2, 0, _, _ => rfl
  | 2, 1, _, _ => rfl
  | 2, 2, _, _ => rfl
theorem sum_three (g : VecD → Int) (x y z : VecD) : sumL g [x, y, z] 3 = g x + g y + g z := by
  simp [sumL, List.range_succ]
  try omega
end Go.Proofs.Ytpfmcobkfofbjaa
namespace Go.Proofs.Ytpfmcobkfofbjaa
open Go Go.RowKit
def heads4 (B : Nat → Nat) (n : Nat) : List Value := (List.range n).map fun i => .slice (some ⟨B i, 0, none⟩) 4 4
def FacesT (base : Nat) (n : Nat) (fs : Value) (F : List (List Int)) (w : World) : Prop :=
  ∃ B : Nat → Nat, w.ownsRow base 57 1 fs n (heads4 B n) ∧ (∀ i, i < n → base ≤ B i ∧ (F.getD i []).length = 4 ∧ w.heap[B i]? = some (.cells ⟨(F.getD i []).map (.int .i64)⟩ 3 (0, 0))) ∧ ∀ i j, i < j → j < n → B i ≠ B j
theorem heap_at_other {w w' : World} {b : Nat} {row : Option Nat} {o : Obj} (h : w.heap[b]? = some o) (hg : w.grownBy w' row) (hne : row ≠ some b) : w'.heap[b]? = some o := by
  rw [hg.block b (Array.getElem?_eq_some_iff.1 h).1 (fun e => hne e.symm)]
  exact h
theorem faces_carried (base n T : Nat) (fs : Value) (F : List (List Int)) : Carried (FacesT base n fs F) 29 26 T := by
  refine ⟨fun w w' h hb => ?_, fun w w' row h hr _ hg => ?_, fun w w' h hT hc => ?_⟩
  · obtain ⟨B, h1, h2, h3⟩ := h
    exact ⟨B, own_kept h1 hb, fun i hi => ⟨(h2 i hi).1, (h2 i hi).2.1, heap_keep (h2 i hi).2.2 hb⟩, h3⟩
  · obtain ⟨B, h1, h2, h3⟩ := h
    refine ⟨B, own_grown h1 hg (fun b hb q => ?_), fun i hi => ⟨(h2 i hi).1, (h2 i hi).2.1, heap_at_other (h2 i hi).2.2 hg (fun q => ?_)⟩, h3⟩
    · obtain ⟨_, cc, fz, hcc⟩ := own_row h1 b q
      rcases h1.2 with ⟨h4, _⟩ | ⟨g, cap, cur, h4, _, h5, _⟩
      · rw [h4] at q; cases q
      · rw [h4] at q
        simp only [Value.ownBlock, Option.some.injEq] at q
        subst q
        exact absurd (hr _ _ _ hb h5) (by decide)
    · exact absurd (hr _ _ _ q (h2 i hi).2.2) (by decide)
  · obtain ⟨B, h1, h2, h3⟩ := h
    obtain ⟨ct, hT⟩ := hT
    refine ⟨B, ⟨h1.1, h1.2.imp id ?_⟩, fun i hi => ⟨(h2 i hi).1, (h2 i hi).2.1, ?_⟩, h3⟩
    · rintro ⟨g, cap, cur, hv, hb, hg, r⟩
      refine ⟨g, cap, cur, hv, hb, ?_, r⟩
      have hne : g ≠ T := fun q => by
        subst q
        rw [hT] at hg
        simp only [Option.some.injEq, Obj.cells.injEq] at hg
        exact absurd hg.2.1 (by decide)
      rw [hc.block g (Array.getElem?_eq_some_iff.1 hg).1 (by omega)]
      exact hg
    · have hg := (h2 i hi).2.2
      have hne : B i ≠ T := fun q => by
        rw [q, hT] at hg
        simp only [Option.some.injEq, Obj.cells.injEq] at hg
        exact absurd hg.2.1 (by decide)
      rw [hc.block (B i) (Array.getElem?_eq_some_iff.1 hg).1 (by omega)]
      exact hg
end Go.Proofs.Ytpfmcobkfofbjaa
namespace Go.Proofs.Ytpfmcobkfofbjaa
open Go Go.RowKit
theorem info_Ints : (Try.prog.info? 57).map (fun i => (i.zero, i.size, i.bytes)) = some (some (.slice none 0 0), 1, 24) := by kernel_rfl
set_option maxRecDepth 100000 in
theorem wp_app_face {w0 w : World} {ops : Array Oper} {rest : List Oper} {o : Oper} {a : Act} {Q : Exit → Act → World → Prop} (hgd : o.guard = none) (s x : Operand)
    (ho : o.op = .call { callee := .builtin .append, args := #[s, x], argTypes := #[24, 24] }) (base n : Nat) (fs : Value) (F : List (List Int)) (hF : F.length = n) (hs : a.eval s = fs) (h0 : FacesT base n fs F w0) (hb : Below w0.heap.size w0 w) (hbase : base ≤ w0.heap.size)
    (b1 b2 c : Nat) (f : List Int) (hf : f.length = 4) (hb1 : w0.heap.size ≤ b1) (hw1 : w.heap[b1]? = some (.cells ⟨f.map (.int .i64)⟩ 3 (0, 0))) (hx : a.eval x = .slice (some ⟨b2, 0, none⟩) 1 c) (hw2 : w.cell? ⟨b2, 0, none⟩ = some (.slice (some ⟨b1, 0, none⟩) 4 4)) (hn : n ≤ 1048576)
    (hK : ∀ v' w', FacesT base (n + 1) v' (F ++ [f]) w' → w.grownBy w' fs.ownBlock → wpList Try.prog ops Q rest (a.put o.dst v') w') :
    wpList Try.prog ops Q (o :: rest) a w := by
  obtain ⟨i0, hi, hz0, hz1, hz2⟩ := info_parts info_Ints
  obtain ⟨B, h1, h2, h3⟩ := h0
  have h1' := own_kept h1 hb
  refine wpList_append_own_at w hgd s x 24 ho base 57 i0 _ 1 24 Try.underlying24 hi hz0 hz1 hz2 rfl (by decide) fs n _ hs h1' ⟨b2, 0, none⟩ 1 c [.slice (some ⟨b1, 0, none⟩) 4 4] hx rfl ?_ ?_ (by simp only [maxLen]; omega) (by omega) (Nat.le_trans hbase hb.size) ?_
  · intro j u hu
    match j, hu with
    | 0, hu =>
      obtain rfl : Value.slice (some ⟨b1, 0, none⟩) 4 4 = u := by simpa using hu
      simpa [Addr.add] using hw2
    | j + 1, hu => simp at hu
  · intro u hu
    obtain rfl : u = Value.slice (some ⟨b1, 0, none⟩) 4 4 := by simpa using hu
    rfl
  intro v' w' ho' hg _ _
  have hlt : ∀ i, i < n → B i < w0.heap.size := fun i hi => (Array.getElem?_eq_some_iff.1 (h2 i hi).2.2).1
  have hty : ∀ b cc, w.heap[b]? = some (.cells cc 3 (0, 0)) → fs.ownBlock ≠ some b := fun b cc hc q => by
    have := own_type h1' q hc
    exact absurd this (by decide)
  refine hK v' w' ⟨fun i => if i < n then B i else b1, ?_, fun i hi => ?_, fun i j hij hj => ?_⟩ hg
  · have e : heads4 (fun i => if i < n then B i else b1) (n + 1) = heads4 B n ++ [.slice (some ⟨b1, 0, none⟩) 4 4] := by
      unfold heads4
      rw [List.range_succ, List.map_append]
      congr 1
      · exact List.map_congr_left fun i hi => by dsimp only; rw [if_pos (List.mem_range.1 hi)]
      · simp
    rw [e]
    exact ho'
  · by_cases hin : i < n
    · obtain ⟨g1, g2, g3⟩ := h2 i hin
      simp only [hin, if_true]
      refine ⟨g1, ?_, ?_⟩
      · rw [List.getD_eq_getElem?_getD, List.getElem?_append_left (by omega), ← List.getD_eq_getElem?_getD]; exact g2
      · rw [List.getD_eq_getElem?_getD, List.getElem?_append_left (by omega), ← List.getD_eq_getElem?_getD]
        have g4 := heap_keep g3 hb
        exact heap_at_other g4 hg (hty _ _ g4)
    · obtain rfl : i = n := by omega
      simp only [Nat.lt_irrefl, if_false]
      have e : (F ++ [f]).getD i [] = f := by rw [List.getD_eq_getElem?_getD, List.getElem?_append_right (by omega)]; simp [hF]
      rw [e]
      exact ⟨by omega, hf, heap_at_other hw1 hg (hty _ _ hw1)⟩
  · by_cases hjn : j < n
    · simp only [show i < n by omega, hjn, if_true]
      exact h3 i j hij hjn
    · obtain rfl : j = n := by omega
      simp only [show i < j by omega, Nat.lt_irrefl, if_true, if_false]
      have := hlt i (by omega)
      omega
/-- Each step's edge is among the edges. -/
theorem in_edgesL {s : List (List Int)} {k i j : Nat} (hi : i < k) (hj : j < 4) : und (stepAt (faceAt s i) j) ∈ edgesL s k := by
  induction k with
  | zero => omega
  | succ k ih =>
    rw [edgesL_succ]
    have mono : ∀ n (L : List (Int × Int)) x, x ∈ L → x ∈ putSteps (faceAt s k) L n := by
      intro n L x hx
      induction n with
      | zero => exact hx
      | succ n ih2 => rw [putSteps_succ]; exact mem_putE.2 (.inr ih2)
    by_cases hik : i < k
    · exact mono 4 _ _ (ih hik)
    · obtain rfl : i = k := by omega
      have key : ∀ n, j < n → und (stepAt (faceAt s i) j) ∈ putSteps (faceAt s i) (edgesL s i) n := by
        intro n
        induction n with
        | zero => intro h; omega
        | succ n ih2 =>
          intro h
          rw [putSteps_succ]
          by_cases hjn : j = n
          · subst hjn; exact mem_putE.2 (.inl rfl)
          · exact mem_putE.2 (.inr (ih2 (by omega)))
      exact key 4 hj
theorem und_swap (x y : Int) : und (x, y) = und (y, x) := by simp only [und, Prod.mk.injEq]; omega
theorem step_next {s : List (List Int)} {k i j : Nat} (hi : i < k) (hj : j < 4) (h4 : (faceAt s i).length = 4) : und ((faceAt s i).getD j 0, (faceAt s i).getD ((j + 1) % 4) 0) ∈ edgesL s k := by
  have h := in_edgesL (s := s) hi hj
  unfold stepAt at h
  rw [h4] at h
  exact h
theorem step_last {s : List (List Int)} {k i j : Nat} (hi : i < k) (hj : j < 4) (h4 : (faceAt s i).length = 4) : und ((faceAt s i).getD j 0, (faceAt s i).getD ((j + 3) % 4) 0) ∈ edgesL s k := by
  have h := step_next (s := s) (j := (j + 3) % 4) hi (by omega) h4
  rw [show ((j + 3) % 4 + 1) % 4 = j by omega] at h
  rw [und_swap]; exact h
/-- The mesh under way: its box T, the vertices' row, the faces' row. -/
structure SubT (base T : Nat) (V : List VecD) (F : List (List Int)) (vs fs : Value) (w : World) : Prop where
  box : w.heap[T]? = some (.cells #[vs, fs] 26 (0, 0))
  own : w.ownsRow base 29 3 vs V.length (vecVals V)
  fac : FacesT base F.length fs F w
theorem SubT.below {base T : Nat} {V : List VecD} {F : List (List Int)} {vs fs : Value} {w w' : World} (h : SubT base T V F vs fs w) (hb : Below w.heap.size w w') : SubT base T V F vs fs w' :=
  ⟨heap_keep h.box hb, own_kept h.own hb, (faces_carried base F.length T fs F).below _ _ h.fac hb⟩
/-- A face more, laid and appended; the box still holds the old header. -/
structure SubT1 (base T : Nat) (V : List VecD) (F : List (List Int)) (vs fs v' : Value) (w : World) : Prop where
  box : w.heap[T]? = some (.cells #[vs, fs] 26 (0, 0))
  own : w.ownsRow base 29 3 vs V.length (vecVals V)
  fac : FacesT base F.length v' F w
theorem SubT.grown {base T : Nat} {V : List VecD} {F F' : List (List Int)} {vs fs v' : Value} {w w' : World} (h : SubT base T V F vs fs w) (hg : w.grownBy w' fs.ownBlock) (hf : FacesT base F'.length v' F' w') : SubT1 base T V F' vs fs v' w' := by
  obtain ⟨B, h1, _, _⟩ := h.fac
  refine ⟨heap_at_other h.box hg (fun q => absurd (own_type h1 q h.box) (by decide)), own_grown h.own hg (fun b hb q => ?_), hf⟩
  obtain ⟨_, cc, fz, hcc⟩ := own_row h1 b hb
  obtain ⟨_, cd, fd, hcd⟩ := own_row h.own b q
  rw [hcc] at hcd
  simp only [Option.some.injEq, Obj.cells.injEq] at hcd
  exact absurd hcd.2.1 (by decide)
theorem SubT1.put {base T : Nat} {V : List VecD} {F : List (List Int)} {vs fs v' : Value} {w : World} (h : SubT1 base T V F vs fs v' w) : SubT base T V F vs v' (w.setCell ⟨T, 1, none⟩ v') := by
  have hl := (Array.getElem?_eq_some_iff.1 h.box).1
  have e : w.setCell ⟨T, 1, none⟩ v' = putB w T [vs, v'] 26 := by
    have e1 := setCell_putB (arr := [vs, fs]) (e := 26) 1 v' hl
    rw [putB_self h.box] at e1
    exact e1
  have hch : Chg T (T + 1) w (w.setCell ⟨T, 1, none⟩ v') := by rw [e]; exact ⟨rfl, rfl, rfl, by simp [putB], fun k _ hk => heap_putB_other k (by omega)⟩
  refine ⟨by rw [e]; exact heap_putB hl, ⟨h.own.1, h.own.2.imp id ?_⟩, (faces_carried base F.length T v' F).store _ _ h.fac ⟨_, h.box⟩ hch⟩
  rintro ⟨g, cap, cur, hv, hb, hg, r⟩
  refine ⟨g, cap, cur, hv, hb, ?_, r⟩
  have hne : g ≠ T := fun q => by
    subst q
    rw [h.box] at hg
    simp only [Option.some.injEq, Obj.cells.injEq] at hg
    exact absurd hg.2.1 (by decide)
  rw [e, heap_putB_other g hne]
  exact hg
/-- What a round of subdivision gives. -/
def SubE (p : MeshD) (w : World) (e : Ending) (w' : World) : Prop :=
  ∃ vs fs, e = .returned (.tuple #[.agg #[vs, fs], .bool true]) ∧ w'.ownsRow w.heap.size 29 3 vs (subVs p).length (vecVals (subVs p)) ∧ FacesT w.heap.size (subFs p).length fs (subFs p) w' ∧ Below w.heap.size w w'
theorem FacesT.base {b b' n : Nat} {fs : Value} {F : List (List Int)} {w : World} (h : FacesT b n fs F w) (hb : b' ≤ b) : FacesT b' n fs F w := by
  obtain ⟨B, h1, h2, h3⟩ := h
  exact ⟨B, own_base h1 hb, fun i hi => ⟨Nat.le_trans hb (h2 i hi).1, (h2 i hi).2⟩, h3⟩
theorem own_chg {w w' : World} {base lo hi : Nat} {e : TypeId} {s : Nat} {v : Value} {n : Nat} {xs : List Value} (h : w.ownsRow base e s v n xs) (k : Chg lo hi w w') (hd : hi ≤ base) : w'.ownsRow base e s v n xs := by
  refine ⟨h.1, h.2.imp id ?_⟩
  rintro ⟨g, cap, cur, hv, hb, hg, r⟩
  exact ⟨g, cap, cur, hv, hb, by rw [k.block g (Array.getElem?_eq_some_iff.1 hg).1 (.inr (by omega))]; exact hg, r⟩
theorem FacesT.chg {w w' : World} {base lo hi n : Nat} {fs : Value} {F : List (List Int)} (h : FacesT base n fs F w) (k : Chg lo hi w w') (hd : hi ≤ base) : FacesT base n fs F w' := by
  obtain ⟨B, h1, h2, h3⟩ := h
  exact ⟨B, own_chg h1 k hd, fun i hi => ⟨(h2 i hi).1, (h2 i hi).2.1, by rw [k.block (B i) (Array.getElem?_eq_some_iff.1 (h2 i hi).2.2).1 (.inr (by have := (h2 i hi).1; omega))]; exact (h2 i hi).2.2⟩, h3⟩
theorem heap_setO {w : World} {U : Nat} (j : Nat) (v : Value) (k : Nat) (hk : k ≠ U) : (w.setCell ⟨U, j, none⟩ v).heap[k]? = w.heap[k]? := by
  simp only [World.setCell]
  rw [Array.getElem?_modify, if_neg (Ne.symm hk)]
theorem chg_set2 (w : World) (B : Nat) (v0 v1 : Value) : Chg B (B + 1) w ((w.setCell ⟨B, 0, none⟩ v0).setCell ⟨B, 1, none⟩ v1) :=
  ⟨rfl, rfl, rfl, by simp [World.setCell], fun k _ hk => by rw [heap_setO _ _ _ (by omega), heap_setO _ _ _ (by omega)]⟩
end Go.Proofs.Ytpfmcobkfofbjaa
