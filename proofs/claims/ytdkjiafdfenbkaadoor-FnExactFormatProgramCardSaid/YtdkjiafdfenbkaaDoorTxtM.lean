/- The text of a node of a program: plain words; how long it may be. -/
import Derived.Test.YtdkjiafdfenbkaaDoorValidPgm2
import Derived.Test.YtdkjiafdfenbkaaDoorNumFmt
import Derived.Test.YtdkjiafdfenbkaaDoorJoin
namespace Go.Proofs.YtdkjiafdfenbkaaDoor
open Go Go.RowKit
/-- The sign of a binary operation. -/
def symB (o : Int) : ByteArray := if o = 4 then ⟨#[43]⟩ else if o = 5 then ⟨#[45]⟩ else if o = 6 then ⟨#[42]⟩ else ⟨#[47]⟩
/-- A node's text, out of the texts of its arguments. -/
def nodeTxt (x : NodeD) (ts : List ByteArray) : ByteArray :=
  if x.f0 = 1 then numB x.f2
  else if x.f0 = 2 then x.f1
  else if x.f0 = 3 then (⟨#[40, 45]⟩ ++ ts.getD 0 ByteArray.empty) ++ ⟨#[41]⟩
  else if x.f0 = 8 then ((x.f1 ++ ⟨#[40]⟩) ++ joinB ts ⟨#[44, 32]⟩) ++ ⟨#[41]⟩
  else (((((⟨#[40]⟩ ++ ts.getD 0 ByteArray.empty) ++ ⟨#[32]⟩) ++ symB x.f0) ++ ⟨#[32]⟩) ++ ts.getD 1 ByteArray.empty) ++ ⟨#[41]⟩
/-- The texts of the first k nodes. -/
def txts (l : List NodeD) : Nat → List ByteArray
  | 0 => []
  | k + 1 => txts l k ++ [nodeTxt (l.getD k default) ((l.getD k default).f3.map fun a => (txts l k).getD a.toNat ByteArray.empty)]
theorem txts_len (l : List NodeD) : ∀ k, (txts l k).length = k
  | 0 => rfl
  | k + 1 => by rw [txts, List.length_append, txts_len l k]; rfl
def txt (l : List NodeD) (i : Nat) : ByteArray := (txts l (i + 1)).getD i ByteArray.empty
theorem txts_at (l : List NodeD) {i : Nat} : ∀ {k : Nat}, i < k → (txts l k).getD i ByteArray.empty = txt l i
  | 0, h => absurd h (Nat.not_lt_zero _)
  | k + 1, h => by
    by_cases hik : i = k
    · subst hik; rfl
    · have h1 := txts_at l (i := i) (k := k) (by omega)
      rw [txts, List.getD_eq_getElem?_getD, List.getElem?_append_left (by rw [txts_len]; omega), ← List.getD_eq_getElem?_getD]
      exact h1
/-- The texts of node i's arguments. -/
def argT (l : List NodeD) (i : Nat) : List ByteArray := (NodeD.args l i).map fun a => txt l a.toNat
theorem txt_eq {l : List NodeD} {i : Nat} (h : ∀ a ∈ NodeD.args l i, 0 ≤ a ∧ a < (i : Int)) : txt l i = nodeTxt (l.getD i default) (argT l i) := by
  have h1 : txt l i = nodeTxt (l.getD i default) ((l.getD i default).f3.map fun a => (txts l i).getD a.toNat ByteArray.empty) := by
    rw [txt, txts, List.getD_eq_getElem?_getD, List.getElem?_append_right (by rw [txts_len]; exact Nat.le_refl _), txts_len]
    simp
  rw [h1]
  congr 1
  exact List.map_congr_left fun a ha => txts_at l (by have := h a ha; omega)
-- how long
theorem sum_split (g : Int → Nat) (c : Int) : ∀ L : List Int, (L.map g).sum = ((L.filter (fun a => decide (a ≠ c))).map g).sum + L.count c * g c
  | [] => by simp
  | a :: L => by
    have ih := sum_split g c L
    by_cases h : a = c
    · subst h
      simp only [List.map_cons, List.sum_cons, List.count_cons_self, ne_eq, not_true_eq_false, decide_false, Bool.false_eq_true, not_false_eq_true, List.filter_cons_of_neg]
      rw [ih, Nat.add_mul, Nat.one_mul]
      simp only [ne_eq]
      omega
    · rw [List.count_cons_of_ne h, List.filter_cons_of_pos (by simpa using h)]
      simp only [List.map_cons, List.sum_cons]
      omega
/-- What is used at most once sums to no more than all. -/
theorem sum_once (f : Nat → Nat) : ∀ (n : Nat) (L : List Int), (∀ a ∈ L, 0 ≤ a ∧ a < (n : Int)) → (∀ k : Nat, k < n → L.count (k : Int) ≤ 1) → (L.map fun a => f a.toNat).sum ≤ ((List.range n).map f).sum
  | 0, L, h1, _ => by
    cases L with
    | nil => simp
    | cons a L => have := h1 a (by simp); omega
  | n + 1, L, h1, h2 => by
    have ih := sum_once f n (L.filter (fun a => decide (a ≠ (n : Int)))) (fun a ha => by
      obtain ⟨hm, hd⟩ := List.mem_filter.1 ha
      have := h1 a hm
      have hne : a ≠ (n : Int) := by simpa using hd
      omega) (fun k hk => by
        have := h2 k (by omega)
        have hc : (L.filter (fun a => decide (a ≠ (n : Int)))).count (k : Int) ≤ L.count (k : Int) := List.Sublist.count_le _ List.filter_sublist
        omega)
    rw [sum_split (fun a => f a.toNat) (n : Int) L, List.range_succ, List.map_append, List.sum_append]
    have h3 := h2 n (by omega)
    have h4 : L.count (n : Int) * f ((n : Int)).toNat ≤ f n := by
      rw [Int.toNat_natCast]
      calc L.count (n : Int) * f n ≤ 1 * f n := Nat.mul_le_mul_right _ h3
        _ = f n := Nat.one_mul _
    simp only [List.map_cons, List.map_nil, List.sum_cons, List.sum_nil]
    omega
theorem join_sum (sep : List UInt8) : ∀ ts : List (List UInt8), (Lib.join ts sep).length ≤ (ts.map List.length).sum + ts.length * sep.length
  | [] => by simp [Lib.join_nil]
  | x :: r => by
    have h : ∀ r : List (List UInt8), (Lib.joinTail sep r).length ≤ (r.map List.length).sum + r.length * sep.length := fun r => by
      induction r with
      | nil => simp [Lib.joinTail]
      | cons y r ih =>
        simp only [Lib.joinTail, List.map_cons, List.flatten_cons, List.length_append, List.length_cons, List.sum_cons] at ih ⊢
        rw [Nat.add_mul, Nat.one_mul]
        omega
    have h1 := h r
    rw [Lib.join_cons, List.length_append, List.length_cons, List.map_cons, List.sum_cons, Nat.add_mul, Nat.one_mul]
    omega
theorem joinB_sum (ts : List ByteArray) (sep : ByteArray) : (joinB ts sep).size ≤ (ts.map ByteArray.size).sum + ts.length * sep.size := by
  have h := join_sum sep.data.toList (ts.map (·.data.toList))
  have e : (ts.map (·.data.toList)).map List.length = ts.map ByteArray.size := by
    rw [List.map_map]
    exact List.map_congr_left fun x _ => by simp
  rw [e, List.length_map] at h
  have e2 : (joinB ts sep).size = (Lib.join (ts.map (·.data.toList)) sep.data.toList).length := by simp [joinB, joinL, ByteArray.size]
  rw [e2]
  simpa using h
theorem getD_sum (ts : List ByteArray) (k : Nat) : (ts.getD k ByteArray.empty).size ≤ (ts.map ByteArray.size).sum := by
  induction ts generalizing k with
  | nil => simp
  | cons x r ih =>
    cases k with
    | zero => simp
    | succ k =>
      have := ih k
      simp only [List.getD_cons_succ, List.map_cons, List.sum_cons]
      omega
theorem two_sum (ts : List ByteArray) : (ts.getD 0 ByteArray.empty).size + (ts.getD 1 ByteArray.empty).size ≤ (ts.map ByteArray.size).sum := by
  cases ts with
  | nil => simp
  | cons x r =>
    have := getD_sum r 0
    simp only [List.getD_cons_zero, List.getD_cons_succ, List.map_cons, List.sum_cons]
    omega
/-- A node of a valid program. -/
structure NodeOk (l : List NodeD) (i : Nat) : Prop where
  args : ∀ a ∈ NodeD.args l i, 0 ≤ a ∧ a < (i : Int)
  name : (l.getD i default).f1.size ≤ 8
  num : 0 ≤ (l.getD i default).f2 ∧ (l.getD i default).f2 ≤ 2559999
  op : ((l.getD i default).f0 = 1 ∧ (NodeD.args l i).length = 0) ∨ ((l.getD i default).f0 = 2 ∧ (NodeD.args l i).length = 0) ∨ ((l.getD i default).f0 = 3 ∧ (NodeD.args l i).length = 1) ∨ ((l.getD i default).f0 = 8 ∧ (NodeD.args l i).length ≤ 3) ∨ ((4 ≤ (l.getD i default).f0 ∧ (l.getD i default).f0 ≤ 7) ∧ (NodeD.args l i).length = 2)
theorem numB_len {n : Int} : (numB n).size ≤ 60 := by
  unfold numB
  have h1 := fmtB_len (n / 256)
  have h2 := padB_len (fracN (n % 256).toNat (placesN (n % 256).toNat)) (placesN (n % 256).toNat)
  have h3 := (places_bd (n % 256).toNat).2
  have c1 : (⟨#[46]⟩ : ByteArray).size = 1 := rfl
  have c2 : (⟨#[]⟩ : ByteArray).size = 0 := rfl
  split
  · split
    · omega
    · simp only [ByteArray.size_append]; omega
  · omega
theorem symB_len (o : Int) : (symB o).size = 1 := by
  unfold symB
  split
  · rfl
  · split
    · rfl
    · split <;> rfl
theorem nodeTxt_len {l : List NodeD} {i : Nat} (h : NodeOk l i) {ts : List ByteArray} (hl : ts.length = (NodeD.args l i).length) : (nodeTxt (l.getD i default) ts).size ≤ 60 + (ts.map ByteArray.size).sum := by
  obtain ⟨_, hn, hq, ho⟩ := h
  have c1 : (⟨#[40, 45]⟩ : ByteArray).size = 2 := rfl
  have c2 : (⟨#[41]⟩ : ByteArray).size = 1 := rfl
  have c3 : (⟨#[40]⟩ : ByteArray).size = 1 := rfl
  have c4 : (⟨#[44, 32]⟩ : ByteArray).size = 2 := rfl
  have c5 : (⟨#[32]⟩ : ByteArray).size = 1 := rfl
  have hb := numB_len (n := (l.getD i default).f2)
  have hj := joinB_sum ts ⟨#[44, 32]⟩
  have hg := getD_sum ts 0
  have h2 := two_sum ts
  have hs := symB_len (l.getD i default).f0
  unfold nodeTxt
  split
  · omega
  · split
    · omega
    · split
      · simp only [ByteArray.size_append]; omega
      · split
        · simp only [ByteArray.size_append]; rw [c4] at hj; omega
        · simp only [ByteArray.size_append]; omega
/-- Of a valid program: its nodes, and that no node is used twice. -/
structure PgmOk (p : ProgD) : Prop where
  node : ∀ i, i < p.nN → NodeOk p.nodes i
  asg : ∀ i, i < p.nA → (p.asg.getD i default).f0.size ≤ 8 ∧ 0 ≤ (p.asg.getD i default).f1 ∧ (p.asg.getD i default).f1 < (p.nN : Int)
  once : ∀ k : Nat, k < p.nN → (useL p).count (k : Int) = 1
  few : p.nN ≤ 60
theorem txt_len {p : ProgD} (h : PgmOk p) {i : Nat} (hi : i < p.nN) : (txt p.nodes i).size ≤ 3600 := by
  let S : Nat → Nat := fun k => ((List.range k).map fun j => (txt p.nodes j).size).sum
  have hS : ∀ k, S (k + 1) = S k + (txt p.nodes k).size := fun k => by simp [S, List.range_succ]
  have hlen := p.hN
  have key : ∀ k, k ≤ p.nN → S k ≤ 60 * k + ((flatL (p.nodes.take k)).map fun a => (txt p.nodes a.toNat).size).sum := by
    intro k
    induction k with
    | zero => intro _; simp [S]
    | succ k ih =>
      intro hk
      have h1 := ih (by omega)
      have hok := h.node k (by omega)
      have h2 := nodeTxt_len hok (ts := argT p.nodes k) (by simp [argT])
      rw [← txt_eq hok.args] at h2
      rw [hS, flatL_take (by omega), List.map_append, List.sum_append]
      have e : ((argT p.nodes k).map ByteArray.size).sum = (((p.nodes.getD k default).f3).map fun a => (txt p.nodes a.toNat).size).sum := by
        simp only [argT, List.map_map]; rfl
      rw [e] at h2
      omega
  have h1 := key (i + 1) (by omega)
  have hsub : ∀ k : Nat, (flatL (p.nodes.take (i + 1))).count (k : Int) ≤ (useL p).count (k : Int) := fun k => by
    have e : useL p = flatL (p.nodes.take (i + 1)) ++ (flatL (p.nodes.drop (i + 1)) ++ rootsL p.asg) := by
      rw [← List.append_assoc]
      unfold useL
      congr 1
      unfold flatL
      rw [← List.flatMap_append, List.take_append_drop]
    rw [e, List.count_append]
    omega
  have hin : ∀ k, k ≤ i + 1 → ∀ a ∈ flatL (p.nodes.take k), 0 ≤ a ∧ a < (i : Int) := by
    intro k
    induction k with
    | zero => intro _ a ha; simp [flatL] at ha
    | succ k ih =>
      intro hk a ha
      rw [flatL_take (by omega), List.mem_append] at ha
      rcases ha with ha | ha
      · exact ih (by omega) a ha
      · have := (h.node k (by omega)).args a ha
        omega
  have h2 := sum_once (fun j => (txt p.nodes j).size) i (flatL (p.nodes.take (i + 1))) (hin (i + 1) (Nat.le_refl _)) (fun k hk => by have := hsub k; have := h.once k (by omega); omega)
  have h3 : S (i + 1) ≤ 60 * (i + 1) + S i := by
    have : ((flatL (p.nodes.take (i + 1))).map fun a => (txt p.nodes a.toNat).size).sum ≤ S i := h2
    omega
  rw [hS] at h3
  have := h.few
  omega
theorem pgm_ok {p : ProgD} (h : validB p = true) : PgmOk p := by
  simp only [validB, decide_eq_true_eq] at h
  obtain ⟨h1, h2, h3, h4⟩ := h
  refine ⟨fun i hi => ?_, fun i hi => ?_, h3, h4⟩
  · have hn := h1 i hi
    simp only [nodeOkB, Bool.and_eq_true] at hn
    obtain ⟨ha, hf⟩ := hn
    refine ⟨fun a hm => ?_, ?_, ?_, ?_⟩
    · simp only [argsInB, decide_eq_true_eq] at ha
      obtain ⟨j, hj, rfl⟩ := List.getElem_of_mem hm
      have := ha j hj
      have e : (p.nodes.getD i default).f3.getD j 0 = (NodeD.args p.nodes i)[j] := by
        show (NodeD.args p.nodes i).getD j 0 = _
        rw [List.getD_eq_getElem?_getD, List.getElem?_eq_getElem hj]; rfl
      rw [e] at this
      exact ⟨this.1, by have := this.2; omega⟩
    · simp only [fieldsOk, Bool.and_eq_true] at hf
      have h1 := hf.1.1
      by_cases hn : named (p.nodes.getD i default).f0
      · rw [if_pos hn] at h1
        simp only [identB, decide_eq_true_eq, Bool.and_eq_true, inB_true] at h1
        have h2 := h1.2
        omega
      · rw [if_neg hn, List.isEmpty_iff, ByteArray.toList_eq] at h1
        have h2 : (p.nodes.getD i default).f1.size = 0 := by
          rw [← ByteArray.size_data, ← Array.length_toList, h1]; rfl
        omega
    · simp only [fieldsOk, Bool.and_eq_true] at hf
      have h1 := hf.1.2
      by_cases ho : (p.nodes.getD i default).f0 = 1
      · rw [if_pos ho, inB_true] at h1; exact h1
      · rw [if_neg ho, beq_iff_eq] at h1; omega
    · simp only [fieldsOk, Bool.and_eq_true] at hf
      have h1 := hf.2
      have e : NodeD.args p.nodes i = (p.nodes.getD i default).f3 := rfl
      rw [e]
      generalize p.nodes.getD i default = x at *
      by_cases o1 : x.f0 = 1 ∨ x.f0 = 2
      · rw [if_pos o1, beq_iff_eq] at h1
        rcases o1 with o1 | o1
        · exact .inl ⟨o1, by omega⟩
        · exact .inr (.inl ⟨o1, by omega⟩)
      · rw [if_neg o1] at h1
        by_cases o3 : x.f0 = 3
        · rw [if_pos o3, beq_iff_eq] at h1
          exact .inr (.inr (.inl ⟨o3, by omega⟩))
        · rw [if_neg o3] at h1
          by_cases o8 : x.f0 = 8
          · rw [if_pos o8, decide_eq_true_eq] at h1
            exact .inr (.inr (.inr (.inl ⟨o8, by omega⟩)))
          · rw [if_neg o8, Bool.and_eq_true, decide_eq_true_eq, beq_iff_eq] at h1
            exact .inr (.inr (.inr (.inr ⟨h1.1, by omega⟩)))
  · have hn := h2 i hi
    simp only [asgOkB, Bool.and_eq_true] at hn
    obtain ⟨ha, hf⟩ := hn
    rw [inB_true] at hf
    simp only [identB, Bool.and_eq_true, inB_true] at ha
    exact ⟨by have := ha.2; omega, hf.1, by have := hf.2; omega⟩
/-- What the program's text is. -/
def pgmTxt (p : ProgD) : Nat → ByteArray
  | 0 => ⟨#[]⟩
  | k + 1 => pgmTxt p k ++ ((((p.asg.getD k default).f0 ++ ⟨#[32, 61, 32]⟩) ++ txt p.nodes (p.asg.getD k default).f1.toNat) ++ ⟨#[59, 10]⟩)
open Classical in
noncomputable def pgmB (p : ProgD) : ByteArray := if validB p = true then pgmTxt p p.nA else ⟨#[]⟩
/-- As many assignments as nodes at most. -/
theorem asg_few {p : ProgD} (h : PgmOk p) : p.nA ≤ 60 := by
  have hl : (rootsL p.asg).length = p.nA := by rw [rootsL, List.length_map, p.hA]
  have h1 := sum_once (fun _ => 1) p.nN (rootsL p.asg) (fun a ha => by
    obtain ⟨x, hx, rfl⟩ := List.mem_map.1 ha
    obtain ⟨j, hj, rfl⟩ := List.getElem_of_mem hx
    obtain ⟨_, g2, g3⟩ := h.asg j (by rw [← p.hA]; exact hj)
    rw [List.getD_eq_getElem?_getD, List.getElem?_eq_getElem hj, Option.getD_some] at g2 g3
    exact ⟨g2, g3⟩) (fun k hk => by
    have := h.once k hk
    unfold useL at this
    rw [List.count_append] at this
    omega)
  have h2 := h.few
  have e1 : ∀ l : List Int, (l.map fun _ => 1).sum = l.length := fun l => by induction l with
    | nil => rfl
    | cons a l ih => rw [List.map_cons, List.sum_cons, ih, List.length_cons]; omega
  have e2 : ∀ n, ((List.range n).map fun _ => 1).sum = n := fun n => by induction n with
    | zero => rfl
    | succ n ih => rw [List.range_succ, List.map_append, List.sum_append, ih]; rfl
  rw [e1, e2, hl] at h1
  omega
theorem pgmTxt_len {p : ProgD} (h : PgmOk p) : ∀ k, k ≤ p.nA → (pgmTxt p k).size ≤ 3700 * k
  | 0, _ => Nat.le_refl _
  | k + 1, hk => by
    have h1 := pgmTxt_len h k (by omega)
    obtain ⟨g1, g2, g3⟩ := h.asg k (by omega)
    have h2 := txt_len h (i := (p.asg.getD k default).f1.toNat) (by omega)
    have c1 : (⟨#[32, 61, 32]⟩ : ByteArray).size = 3 := rfl
    have c2 : (⟨#[59, 10]⟩ : ByteArray).size = 2 := rfl
    simp only [pgmTxt, ByteArray.size_append]
    omega
end Go.Proofs.YtdkjiafdfenbkaaDoor
