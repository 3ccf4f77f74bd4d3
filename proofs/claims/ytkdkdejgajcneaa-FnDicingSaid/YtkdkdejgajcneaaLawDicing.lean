/- LawDicing, with DicingM, Split ahead of it. -/
import Derived.Test.YtkdkdejgajcneaaDicePatch
import Derived.Test.YtkdkdejgajcneaaRate
import Derived.Test.YtkdkdejgajcneaaSameMic
import Derived.Test.YtkdkdejgajcneaaMake
import Derived.Test.YtkdkdejgajcneaaOpen
namespace Go.Proofs.Ytkdkdejgajcneaa
open Go Go.RowKit
set_option linter.unusedVariables false
theorem quarter_div {k u v s : Nat} (hk : 1 ≤ k) (hu : u < 2) (hv : v < 2) (hs : s < k * k) :
    (v * k + s / k) * (2 * k) + (u * k + s % k) < 2 * k * (2 * k) ∧ ((v * k + s / k) * (2 * k) + (u * k + s % k)) % (2 * k) = u * k + s % k ∧ ((v * k + s / k) * (2 * k) + (u * k + s % k)) / (2 * k) = v * k + s / k := by
  have h1 : s % k < k := Nat.mod_lt _ (by omega)
  have h2 : s / k < k := Nat.div_lt_of_lt_mul hs
  have h3 : u * k + s % k < 2 * k := by
    have := Nat.mul_le_mul_right k (show u ≤ 1 by omega)
    omega
  have h4 : v * k + s / k < 2 * k := by
    have := Nat.mul_le_mul_right k (show v ≤ 1 by omega)
    omega
  refine ⟨?_, ?_, ?_⟩
  · have := Nat.mul_le_mul_right (2 * k) (show v * k + s / k + 1 ≤ 2 * k by omega)
    rw [Nat.add_mul, Nat.one_mul] at this
    omega
  · rw [Nat.mul_comm, Nat.mul_add_mod, Nat.mod_eq_of_lt h3]
  · rw [Nat.mul_comm, Nat.mul_add_div (by omega), Nat.div_eq_of_lt h3, Nat.add_zero]
theorem part_mem {c : CamD} {p : PatD} {k u v : Nat} {n lx ly : Int} (hk : 1 ≤ k) (hu : u < 2) (hv : v < 2) {m : MicropolygonD} (hm : m ∈ gridD c p u v k n lx ly (k * k)) :
    m ∈ gridD c p 0 0 (2 * k) n lx ly (2 * k * (2 * k)) := by
  obtain ⟨s, hs, hm⟩ := List.mem_flatMap.1 hm
  rw [List.mem_range] at hs
  obtain ⟨q1, q2, q3⟩ := quarter_div hk hu hv hs
  refine List.mem_flatMap.2 ⟨_, List.mem_range.2 q1, ?_⟩
  simp only [Int.zero_mul, Int.zero_add, ← Int.natCast_emod, ← Int.natCast_ediv, q2, q3]
  simpa only [Int.natCast_add, Int.natCast_mul, Int.natCast_emod, Int.natCast_ediv] using hm
/-- How many micropolygons a cell has. -/
def lenC (c : CamD) (p : PatD) (n lx ly : Int) (u v : Nat) : Nat := (dcD c p u v n lx ly).length
theorem gridD_sum (c : CamD) (p : PatD) (u v k : Nat) (n lx ly : Int) (t : Nat) : (gridD c p u v k n lx ly t).length = ((List.range t).map fun s => lenC c p n lx ly (u * k + s % k) (v * k + s / k)).sum := by
  unfold gridD lenC
  rw [List.length_flatMap]
  simp only [Int.natCast_add, Int.natCast_mul, Int.natCast_emod, Int.natCast_ediv]
theorem sum1 (g : Nat → Nat) : ((List.range 1).map g).sum = g 0 + 0 := rfl
theorem sum4 (g : Nat → Nat) : ((List.range 4).map g).sum = g 0 + (g 1 + (g 2 + (g 3 + 0))) := rfl
theorem sum16 (g : Nat → Nat) : ((List.range 16).map g).sum = g 0 + (g 1 + (g 2 + (g 3 + (g 4 + (g 5 + (g 6 + (g 7 + (g 8 + (g 9 + (g 10 + (g 11 + (g 12 + (g 13 + (g 14 + (g 15 + 0))))))))))))))) := rfl
set_option maxRecDepth 100000 in
theorem sum64 (g : Nat → Nat) : ((List.range 64).map g).sum = g 0 + (g 1 + (g 2 + (g 3 + (g 4 + (g 5 + (g 6 + (g 7 + (g 8 + (g 9 + (g 10 + (g 11 + (g 12 + (g 13 + (g 14 + (g 15 + (g 16 + (g 17 + (g 18 + (g 19 + (g 20 + (g 21 + (g 22 + (g 23 + (g 24 + (g 25 + (g 26 + (g 27 + (g 28 + (g 29 + (g 30 + (g 31 + (g 32 + (g 33 + (g 34 + (g 35 + (g 36 + (g 37 + (g 38 + (g 39 + (g 40 + (g 41 + (g 42 + (g 43 + (g 44 + (g 45 + (g 46 + (g 47 + (g 48 + (g 49 + (g 50 + (g 51 + (g 52 + (g 53 + (g 54 + (g 55 + (g 56 + (g 57 + (g 58 + (g 59 + (g 60 + (g 61 + (g 62 + (g 63 + 0))))))))))))))))))))))))))))))))))))))))))))))))))))))))))))))) := rfl
set_option maxRecDepth 100000 in
set_option maxHeartbeats 4000000 in
theorem parts_len (c : CamD) (p : PatD) (n lx ly : Int) {k : Nat} (hk : k = 1 ∨ k = 2 ∨ k = 4) :
    (gridD c p (0 : Nat) (0 : Nat) k n lx ly (k * k)).length + (gridD c p (1 : Nat) (0 : Nat) k n lx ly (k * k)).length + (gridD c p (0 : Nat) (1 : Nat) k n lx ly (k * k)).length + (gridD c p (1 : Nat) (1 : Nat) k n lx ly (k * k)).length
      = (gridD c p (0 : Nat) (0 : Nat) (2 * k) n lx ly (2 * k * (2 * k))).length := by
  simp only [gridD_sum]
  generalize lenC c p n lx ly = f
  rcases hk with rfl | rfl | rfl
  · simp only [Nat.reduceMul, sum1, sum4, Nat.reduceMod, Nat.reduceDiv, Nat.reduceAdd]; omega
  · simp only [Nat.reduceMul, sum4, sum16, Nat.reduceMod, Nat.reduceDiv, Nat.reduceAdd]; omega
  · simp only [Nat.reduceMul, sum16, sum64, Nat.reduceMod, Nat.reduceDiv, Nat.reduceAdd]; omega
/-- What quarter i of the grid holds; what the whole grid holds. -/
def quarterD (c : CamD) (p : PatD) (n lx ly : Int) (i : Nat) : List MicropolygonD := dsD c p ((i : Int) % 2) ((i : Int) / 2) 2 n lx ly
def sumQ (c : CamD) (p : PatD) (n lx ly : Int) (t : Nat) : Nat := ((List.range t).map fun i => (quarterD c p n lx ly i).length).sum
theorem sumQ_succ (c : CamD) (p : PatD) (n lx ly : Int) (t : Nat) : sumQ c p n lx ly (t + 1) = sumQ c p n lx ly t + (quarterD c p n lx ly t).length := by simp [sumQ, List.range_succ]
theorem quarterD_at (c : CamD) (p : PatD) (lx ly : Int) {k : Nat} (hk : k = 1 ∨ k = 2 ∨ k = 4) {i : Nat} (hi : i < 4) : quarterD c p (2 * (k : Int)) lx ly i = gridD c p ((i % 2 : Nat) : Int) ((i / 2 : Nat) : Int) k (2 * (k : Int)) lx ly (k * k) := by
  have hin : dsIn ((i : Int) % 2) ((i : Int) / 2) 2 (2 * (k : Int)) = true := by
    have hi' : i = 0 ∨ i = 1 ∨ i = 2 ∨ i = 3 := by omega
    rcases hi' with rfl | rfl | rfl | rfl <;> rcases hk with rfl | rfl | rfl <;> decide
  have hk2 : dsK 2 (2 * (k : Int)) = k := by unfold dsK; omega
  unfold quarterD dsD
  rw [hin, if_pos rfl, hk2]
  rfl
theorem allD_at (c : CamD) (p : PatD) (lx ly : Int) {k : Nat} (hk : k = 1 ∨ k = 2 ∨ k = 4) : dsD c p 0 0 1 (2 * (k : Int)) lx ly = gridD c p 0 0 (2 * k) (2 * (k : Int)) lx ly (2 * k * (2 * k)) := by
  rw [dsD_one (by rw [inB_true]; omega), show (2 * (k : Int)).toNat = 2 * k by omega]
theorem quarter_mem {c : CamD} {p : PatD} {lx ly : Int} {k : Nat} (hk : k = 1 ∨ k = 2 ∨ k = 4) {i : Nat} (hi : i < 4) {m : MicropolygonD} (hm : m ∈ quarterD c p (2 * (k : Int)) lx ly i) : m ∈ dsD c p 0 0 1 (2 * (k : Int)) lx ly := by
  rw [quarterD_at c p lx ly hk hi] at hm
  rw [allD_at c p lx ly hk]
  exact part_mem (by omega) (Nat.mod_lt _ (by omega)) (by omega) hm
theorem quarters_len (c : CamD) (p : PatD) (lx ly : Int) {k : Nat} (hk : k = 1 ∨ k = 2 ∨ k = 4) : sumQ c p (2 * (k : Int)) lx ly 4 = (dsD c p 0 0 1 (2 * (k : Int)) lx ly).length := by
  rw [allD_at c p lx ly hk, sumQ_succ, sumQ_succ, sumQ_succ, sumQ_succ, quarterD_at c p lx ly hk (show 0 < 4 by omega), quarterD_at c p lx ly hk (show 1 < 4 by omega), quarterD_at c p lx ly hk (show 2 < 4 by omega), quarterD_at c p lx ly hk (show 3 < 4 by omega)]
  have := parts_len c p (2 * (k : Int)) lx ly hk
  have e0 : sumQ c p (2 * (k : Int)) lx ly 0 = 0 := rfl
  rw [e0, Nat.zero_add]
  exact this
end Go.Proofs.Ytkdkdejgajcneaa
namespace Go.Proofs.Ytkdkdejgajcneaa
open Go Go.RowKit Go.Shelf
attribute [local go_sem] Oper.semAt_some
set_option linter.unusedVariables false
theorem info_SubC : (Try.prog.info? 39).map (fun i => (i.zero, i.size, i.bytes)) = some (some (.agg #[.int .i64 0, .int .i64 0, .int .i64 0]), 3, 24) := by kernel_rfl
/-- Quarter i of a whole patch. -/
def quarter (i : Nat) : List Value := [.int .i64 ((i : Int) % 2), .int .i64 ((i : Int) / 2), .int .i64 2]
def quarters (pre : List (Fin (2 * 2))) : List Value := pre.flatMap fun x => quarter x.1
theorem quarters_snoc (pre : List (Fin (2 * 2))) (x : Fin (2 * 2)) : quarters (pre ++ [x]) = quarters pre ++ quarter x.1 := by simp [quarters]
theorem wpListIn_append_sub {F : Fence} {m : Nat} {w : World} {ops : Array Oper} {rest : List Oper} {o : Oper} {a : Act} {Q : Exit → Act → World → Prop} (hgd : o.guard = none) (s x : Operand)
    (ho : o.op = .call { callee := .builtin .append, args := #[s, x], argTypes := #[36, 36] })
    (base : Nat) (v : Value) (n : Nat) (xs : List Value) (hs : a.eval s = v) (hown : w.ownsRow base 39 3 v n xs)
    (g : Nat) (p : List Value) (hp : p.length = 3) (hp1 : ∀ u ∈ p, u.oneCell' = true) (hx : a.eval x = .slice (some ⟨g, 0, none⟩) 1 1) (hg : w.heap[g]? = some (.cells ⟨p⟩ 39 (0, 0))) (hn : n ≤ 1000) (hbase : base ≤ w.heap.size)
    (h : ∀ v' w', w'.ownsRow base 39 3 v' (n + 1) (xs ++ p) → w.grownBy w' v.ownBlock → wpListIn F m Try.prog ops Q rest (a.put o.dst v') w') : wpListIn F m Try.prog ops Q (o :: rest) a w := by
  obtain ⟨i0, hi, hz0, hz1, hz2⟩ := info_parts info_SubC
  refine wpListIn_append_own w hgd s x 36 ho base 39 i0 _ 3 24 Try.underlying36 hi hz0 hz1 hz2 rfl (by decide) v n xs hs hown ⟨g, 0, none⟩ 1 1 p hx (by rw [hp]) ?_ hp1 (by simp only [maxLen]; omega) (by omega) hbase ?_
  · intro j u hu
    rw [show (⟨g, 0, none⟩ : Addr).add j = ⟨g, j, none⟩ by (simp only [Addr.add, Nat.zero_add]; split <;> simp_all), cell_of_row w g j ⟨p⟩ _ (0, 0) hg]
    simpa using hu
  · intro v' w' h1 h2 _
    exact h v' w' h1 h2
set_option maxRecDepth 100000 in
set_option maxHeartbeats 8000000 in
theorem impl_Split_c (w : World) : Calls Try.prog 19 #[subV 0 0 1] w (Gives w 3 4 quarter) := by
  have o1 : subPOk 0 0 1 = true := by decide
  refine (callsIn_wide (n := 8)).1 ?_
  refine callsIn_of_wp_marks Try.func19 rfl trivial ?_ rfl
  simp only [Try.ntmps19, List.size_toArray, List.length_cons, List.length_nil, Nat.reduceAdd, Nat.reduceSub, Array.replicate_succ, Array.replicate_zero, List.push_toArray, List.append_toArray, List.nil_append, List.cons_append]
  gi_wp2_with (first | (refine ⟨trivial, ?_⟩; gi_at_call 60; refine (callsIn_wide.2 (impl_IsValidSubPatch_c _ _ _ _)).mono ?_; rw [o1]; rintro e w1 ⟨rfl, hb1⟩; have hS := cell_of_row w1 w.heap.size 0 ⟨[.int .i64 0, .int .i64 0, .int .i64 1]⟩ 39 (0, 0) ((hb1.block _ (by simp)).trans (heap_alloc_new _ _)); have hS1 := cell_of_row w1 w.heap.size 1 ⟨[.int .i64 0, .int .i64 0, .int .i64 1]⟩ 39 (0, 0) ((hb1.block _ (by simp)).trans (heap_alloc_new _ _)); have hS2 := cell_of_row w1 w.heap.size 2 ⟨[.int .i64 0, .int .i64 0, .int .i64 1]⟩ 39 (0, 0) ((hb1.block _ (by simp)).trans (heap_alloc_new _ _)); have eU : w1.cell? ⟨w.heap.size, 0, none⟩ = some (.int .i64 0) := hS; have eV : w1.cell? ⟨w.heap.size, 1, none⟩ = some (.int .i64 0) := hS1; have eN : w1.cell? ⟨w.heap.size, 2, none⟩ = some (.int .i64 1) := hS2; clear hS hS1 hS2; have HB1 := Lib.hid (Below.trans (show Below w.heap.size w _ from (by repeat (first | exact Below.refl _ _ | refine Below.drew ?_ | refine Below.alloc ?_ (by first | exact Nat.le_refl _ | (simp; done) | (simp; omega) | omega) _ | refine Below.more ?_ (by first | exact Nat.le_refl _ | (simp; done) | (simp; omega) | omega) _ _ | refine Below.setCell ?_ (by first | exact Nat.le_refl _ | (simp; done) | (simp; omega) | omega) _ | assumption))) (hb1.mono (by simp))); have hE : w.heap.size < w1.heap.size := World.block_lt_of_cell? _ _ eU; clear hb1) | (refine ⟨trivial, ?_⟩; gi_at_call 61; refine (callsIn_wide.2 (cells_c _ _)).mono ?_; rintro e w' ⟨rfl, rfl⟩))
  have bZ := World.ownsRow_made (e := 39) (size := 3) (base := w1.heap.size) w1 #[] 0 (by simp) (by decide) (by simp)
  have bO : Boxed ((w1.alloc (.cells #[] 39)).alloc (.cells #[.slice (some ⟨w1.heap.size, 0, none⟩) 0 0] 36)) (w1.heap.size + 1) 36 (.slice (some ⟨w1.heap.size, 0, none⟩) 0 0) := heap_at_new (by simp)
  have bN : Boxed (((w1.alloc (.cells #[] 39)).alloc (.cells #[.slice (some ⟨w1.heap.size, 0, none⟩) 0 0] 36)).alloc (.cells #[.int .i64 2] 3)) (w1.heap.size + 1 + 1) 3 (.int .i64 2) := heap_at_new (by simp)
  have hB0 : Below w1.heap.size w1 (((w1.alloc (.cells #[] 39)).alloc (.cells #[.slice (some ⟨w1.heap.size, 0, none⟩) 0 0] 36)).alloc (.cells #[.int .i64 2] 3)) := (by repeat (first | exact Below.refl _ _ | refine Below.drew ?_ | refine Below.alloc ?_ (by first | exact Nat.le_refl _ | (simp; done) | (simp; omega) | omega) _ | refine Below.more ?_ (by first | exact Nat.le_refl _ | (simp; done) | (simp; omega) | omega) _ _ | refine Below.setCell ?_ (by first | exact Nat.le_refl _ | (simp; done) | (simp; omega) | omega) _ | assumption))
  refine wpIn_rangeFunc_ownF rfl (by omega) (gf := 98) (lb := #[.pointer (some ⟨w1.heap.size + 1 + 1, 0, none⟩)]) rfl trivial (enters_of Try.func98 (by kernel_rfl) rfl)
    (cells_stops 7 (by omega) (w1.heap.size + 1 + 1) 2 (by omega) (by omega) _ bN.cell) (fun h k => KeepB.t h k) (KeepB.b (by simp)) (Below.refl _ _) (fun _ => rfl)
    (fun pre W => ((∃ v', Boxed W (w1.heap.size + 1) 36 v' ∧ W.ownsRow w1.heap.size 39 3 v' pre.length (quarters pre) ∧ True) ∧ Boxed W (w1.heap.size + 1 + 1) 3 (.int .i64 2)) ∧ Below w1.heap.size w1 W)
    (fun _ _ _ => False)
    (OwnFrom.and (OwnFrom.and (Own.from (holdsRow_own w1.heap.size (w1.heap.size + 1) 36 39 3 (fun pre => pre.length) (fun pre => quarters pre) (fun _ _ => True)) _) (Own.from (boxed_own _ _ _) _)) (ownFrom_below (Nat.le_refl _) (by simp; omega)))
    (fun _ _ _ _ _ hs _ _ => hs)
    ⟨⟨⟨_, bO.alloc _, (bZ.alloc _).alloc _, trivial⟩, bN⟩, hB0⟩ ?a1 ?assign ?body ?done ?stop
  case assign =>
    intro l x W K hK
    simp only [cellsE]
    gi_wp2
    exact hK
  case body =>
    rintro _l pre x W ⟨⟨⟨v', hv, hrow, _⟩, hN⟩, hB⟩ hlt
    replace eU := cell_below hB eU
    replace eV := cell_below hB eV
    replace eN := cell_below hB eN
    have hE2 : w.heap.size < W.heap.size := World.block_lt_of_cell? _ _ eU
    have hc := hv.cell
    have hf := hv.frozen
    have HV := Lib.hid hv
    have HROW := Lib.hid hrow
    have HN := Lib.hid hN
    have HB := Lib.hid hB
    have hpl : pre.length ≤ 4 := by omega
    clear hv hrow hN hB bZ bO bN hB0
    obtain ⟨k, hk4⟩ := x
    have hkk : k = 0 ∨ k = 1 ∨ k = 2 ∨ k = 3 := by omega
    rcases hkk with rfl | rfl | rfl | rfl
    · have hnr := Lib.hid (Boxed.not_row HN.out (show 3 ≠ 39 by decide) HROW.out)
      gi_wp2_with (gi_at_builtin; refine wpListIn_append_sub rfl _ _ rfl w1.heap.size _ pre.length _ rfl (HROW.out.alloc _) _ [.int .i64 0, .int .i64 0, .int .i64 2] rfl (by intro u hu; simp only [List.mem_cons, List.not_mem_nil, or_false] at hu; rcases hu with rfl | rfl | rfl <;> rfl) rfl (heap_at_new rfl) (by omega) (by have := HB.out.size; simp; omega) ?_; intro v2 w2 hown2 hgrow2; obtain ⟨g2', cap2, rfl⟩ := ownsRow_succ hown2; have HH := Lib.hid (Boxed.appended HV.out (by decide) HROW.out HB.out.size (by omega) hown2 hgrow2); have HG2 := Lib.hid hgrow2; have hc1 := HH.out.1.cell; have hf1 := HH.out.1.frozen; clear hown2 hgrow2)
      obtain ⟨hv1, hv2, hr2, hk2, hb2⟩ := HH.out
      have hN2 := Boxed.other ((HN.out.alloc _).kept HG2.out hnr.out) (show w1.heap.size + 1 + 1 ≠ w1.heap.size + 1 by omega) (.slice (some ⟨g2', 0, none⟩) (pre.length + 1) cap2)
      refine ⟨hk2, KeepB.boxed (show Boxed W _ _ _ from HN.out) hN2, ⟨⟨⟨_, hv2, ?_⟩, hN2⟩, HB.out.trans hb2⟩⟩
      rw [quarters_snoc, List.length_append]
      exact hr2
    · have hnr := Lib.hid (Boxed.not_row HN.out (show 3 ≠ 39 by decide) HROW.out)
      gi_wp2_with (gi_at_builtin; refine wpListIn_append_sub rfl _ _ rfl w1.heap.size _ pre.length _ rfl (HROW.out.alloc _) _ [.int .i64 1, .int .i64 0, .int .i64 2] rfl (by intro u hu; simp only [List.mem_cons, List.not_mem_nil, or_false] at hu; rcases hu with rfl | rfl | rfl <;> rfl) rfl (heap_at_new rfl) (by omega) (by have := HB.out.size; simp; omega) ?_; intro v2 w2 hown2 hgrow2; obtain ⟨g2', cap2, rfl⟩ := ownsRow_succ hown2; have HH := Lib.hid (Boxed.appended HV.out (by decide) HROW.out HB.out.size (by omega) hown2 hgrow2); have HG2 := Lib.hid hgrow2; have hc1 := HH.out.1.cell; have hf1 := HH.out.1.frozen; clear hown2 hgrow2)
      obtain ⟨hv1, hv2, hr2, hk2, hb2⟩ := HH.out
      have hN2 := Boxed.other ((HN.out.alloc _).kept HG2.out hnr.out) (show w1.heap.size + 1 + 1 ≠ w1.heap.size + 1 by omega) (.slice (some ⟨g2', 0, none⟩) (pre.length + 1) cap2)
      refine ⟨hk2, KeepB.boxed (show Boxed W _ _ _ from HN.out) hN2, ⟨⟨⟨_, hv2, ?_⟩, hN2⟩, HB.out.trans hb2⟩⟩
      rw [quarters_snoc, List.length_append]
      exact hr2
    · have hnr := Lib.hid (Boxed.not_row HN.out (show 3 ≠ 39 by decide) HROW.out)
      gi_wp2_with (gi_at_builtin; refine wpListIn_append_sub rfl _ _ rfl w1.heap.size _ pre.length _ rfl (HROW.out.alloc _) _ [.int .i64 0, .int .i64 1, .int .i64 2] rfl (by intro u hu; simp only [List.mem_cons, List.not_mem_nil, or_false] at hu; rcases hu with rfl | rfl | rfl <;> rfl) rfl (heap_at_new rfl) (by omega) (by have := HB.out.size; simp; omega) ?_; intro v2 w2 hown2 hgrow2; obtain ⟨g2', cap2, rfl⟩ := ownsRow_succ hown2; have HH := Lib.hid (Boxed.appended HV.out (by decide) HROW.out HB.out.size (by omega) hown2 hgrow2); have HG2 := Lib.hid hgrow2; have hc1 := HH.out.1.cell; have hf1 := HH.out.1.frozen; clear hown2 hgrow2)
      obtain ⟨hv1, hv2, hr2, hk2, hb2⟩ := HH.out
      have hN2 := Boxed.other ((HN.out.alloc _).kept HG2.out hnr.out) (show w1.heap.size + 1 + 1 ≠ w1.heap.size + 1 by omega) (.slice (some ⟨g2', 0, none⟩) (pre.length + 1) cap2)
      refine ⟨hk2, KeepB.boxed (show Boxed W _ _ _ from HN.out) hN2, ⟨⟨⟨_, hv2, ?_⟩, hN2⟩, HB.out.trans hb2⟩⟩
      rw [quarters_snoc, List.length_append]
      exact hr2
    · have hnr := Lib.hid (Boxed.not_row HN.out (show 3 ≠ 39 by decide) HROW.out)
      gi_wp2_with (gi_at_builtin; refine wpListIn_append_sub rfl _ _ rfl w1.heap.size _ pre.length _ rfl (HROW.out.alloc _) _ [.int .i64 1, .int .i64 1, .int .i64 2] rfl (by intro u hu; simp only [List.mem_cons, List.not_mem_nil, or_false] at hu; rcases hu with rfl | rfl | rfl <;> rfl) rfl (heap_at_new rfl) (by omega) (by have := HB.out.size; simp; omega) ?_; intro v2 w2 hown2 hgrow2; obtain ⟨g2', cap2, rfl⟩ := ownsRow_succ hown2; have HH := Lib.hid (Boxed.appended HV.out (by decide) HROW.out HB.out.size (by omega) hown2 hgrow2); have HG2 := Lib.hid hgrow2; have hc1 := HH.out.1.cell; have hf1 := HH.out.1.frozen; clear hown2 hgrow2)
      obtain ⟨hv1, hv2, hr2, hk2, hb2⟩ := HH.out
      have hN2 := Boxed.other ((HN.out.alloc _).kept HG2.out hnr.out) (show w1.heap.size + 1 + 1 ≠ w1.heap.size + 1 by omega) (.slice (some ⟨g2', 0, none⟩) (pre.length + 1) cap2)
      refine ⟨hk2, KeepB.boxed (show Boxed W _ _ _ from HN.out) hN2, ⟨⟨⟨_, hv2, ?_⟩, hN2⟩, HB.out.trans hb2⟩⟩
      rw [quarters_snoc, List.length_append]
      exact hr2
  case done =>
    rintro D ys W hD rfl ⟨⟨⟨v', hv, hrow, _⟩, hN⟩, hB⟩ hK
    have hc := hv.cell
    have hDw : w.heap.size ≤ D := by simp at hD; omega
    have hle : w.heap.size ≤ w1.heap.size := by omega
    gi_wp2
    refine ⟨by simp, .inl ⟨_, _, rfl, run_takeDeferred hK, ?_⟩⟩
    have hq : quarters (List.finRange (2 * 2)) = flat 3 4 quarter := rfl
    rw [hq, show (List.finRange (2 * 2)).length = 4 from rfl] at hrow
    exact ⟨_, results_tmp rfl _ _ _, gives_of_flat (ownsRow_putObj (ownsRow_base hrow hle) _ hK rfl) (fun _ _ => rfl) ((HB1.out.trans (hB.mono hle)).trans (belowK_b (w := w) (Nat.le_refl _) W D _ _ hDw hK rfl rfl))⟩
  case stop =>
    rintro D cd pre W _ _ h _
    exact h.elim
end Go.Proofs.Ytkdkdejgajcneaa
namespace Go.Proofs.Ytkdkdejgajcneaa
open Go Go.RowKit Go.ChangeShapes
set_option linter.unusedVariables false
theorem mic_self (x : MicropolygonD) : micEq x x = true := by simp [micEq, vecEq]
set_option maxRecDepth 100000 in
set_option maxHeartbeats 16000000 in
theorem law_Dicing {H : Type} {enc : TypeId × Value → H} {W : World} {base : Nat} {v0 : Value} {d0 : DataW H} {p0 : List MemPlace}
    (k0 : Value.okWide Try.prog W .any base 22 v0) (h0 : DataW.Trod enc Try.prog W 0 (fun _ => true) true 22 v0 d0 p0) :
    Calls Try.prog 3 #[v0] W fun e W' => e = .returned (.bool true) ∧ Below W.heap.size W W' := by
  obtain ⟨a, cap, C, n, rfl, HB, hn⟩ := open_bytes k0 h0
  clear k0 h0
  by_cases hbig : n ≤ 1048576
  · have hb1 : ¬ (n : Int) > 1048576 := by omega
    go_enter Try.func3, Try.ntmps3
    go_wp2_with fail
    refine (MakeCamera_c a n cap C _ HB.out hbig).mono ?_
    rintro e w1 ⟨cW, cH, cZ, cN, cD, cL, cF, hcb, rfl, B1⟩
    have B1' := Lib.hid (Below.alloc B1 B1.size (.cells #[.int .i64 cW, .int .i64 cH, .int .i64 cZ, .int .i64 cN, .bool cD, .int .i64 cL, .int .i64 cF] 24))
    have hs1 := B1.size
    have HCAM := Lib.hid (show camOk cW cH cZ cN cL cF = true by
      obtain ⟨⟨_, _⟩, ⟨_, _⟩, ⟨_, _⟩, ⟨_, _⟩, ⟨_, _⟩, ⟨_, _⟩⟩ := hcb
      simp only [camOk, Bool.and_eq_true, inB_true]
      omega)
    clear B1 hcb
    go_wp2_with fail
    refine (MakePatch_c a n cap C 0 _ (HB.out.below B1'.out) hbig (by omega) (by omega)).mono ?_
    rintro e w2 ⟨t0, t1, t2, t3, t4, t5, t6, t7, t8, t9, t10, t11, hta, rfl, b2⟩
    have hc2 : w2.heap[w1.heap.size]? = some (.cells #[.int .i64 cW, .int .i64 cH, .int .i64 cZ, .int .i64 cN, .bool cD, .int .i64 cL, .int .i64 cF] 24 (0, 0)) := by rw [b2.block _ (by simp), heap_alloc_new]
    have B2 := B1'.out.trans (b2.mono (by simp; omega))
    have B2' := Lib.hid (Below.alloc B2 B2.size (.cells #[.int .i64 t0, .int .i64 t1, .int .i64 t2, .int .i64 t3, .int .i64 t4, .int .i64 t5, .int .i64 t6, .int .i64 t7, .int .i64 t8, .int .i64 t9, .int .i64 t10, .int .i64 t11] 30))
    have hs2 : w1.heap.size < w2.heap.size := (Array.getElem?_eq_some_iff.1 hc2).1
    have HC2 := Lib.hid hc2
    have HPAT := Lib.hid (show patOk t0 t1 t2 t3 t4 t5 t6 t7 t8 t9 t10 t11 = true by
      obtain ⟨⟨_, _⟩, ⟨_, _⟩, ⟨_, _⟩, ⟨_, _⟩, ⟨_, _⟩, ⟨_, _⟩, ⟨_, _⟩, ⟨_, _⟩, ⟨_, _⟩, ⟨_, _⟩, ⟨_, _⟩, ⟨_, _⟩⟩ := hta
      simp only [patOk, vecOk, Bool.and_eq_true, inB_true]
      omega)
    have hsW2 := B2.size
    clear b2 B2 hta hc2
    go_wp2_with fail
    refine (MakeNum_k a n cap C 1 _ (HB.out.below (Below.trans B2'.out (Below.mono (show Below (w2.heap.size + 1) (w2.alloc (.cells #[.int .i64 t0, .int .i64 t1, .int .i64 t2, .int .i64 t3, .int .i64 t4, .int .i64 t5, .int .i64 t6, .int .i64 t7, .int .i64 t8, .int .i64 t9, .int .i64 t10, .int .i64 t11] 30)) _ from (by repeat (first | exact Below.refl _ _ | refine Below.drew ?_ | refine Below.alloc ?_ (by first | exact Nat.le_refl _ | (simp; done) | (simp; omega) | omega) _ | refine Below.more ?_ (by first | exact Nat.le_refl _ | (simp; done) | (simp; omega) | omega) _ _ | refine Below.setCell ?_ (by first | exact Nat.le_refl _ | (simp; done) | (simp; omega) | omega) _ | assumption))) (by omega)))) hbig (by omega) (by omega)).mono ?_
    rintro e w3 ⟨x, x1, x2, rfl, b3⟩
    have b23 : Below (w2.heap.size + 1) (w2.alloc (.cells #[.int .i64 t0, .int .i64 t1, .int .i64 t2, .int .i64 t3, .int .i64 t4, .int .i64 t5, .int .i64 t6, .int .i64 t7, .int .i64 t8, .int .i64 t9, .int .i64 t10, .int .i64 t11] 30)) w3 := Below.trans (by repeat (first | exact Below.refl _ _ | refine Below.drew ?_ | refine Below.alloc ?_ (by first | exact Nat.le_refl _ | (simp; done) | (simp; omega) | omega) _ | refine Below.more ?_ (by first | exact Nat.le_refl _ | (simp; done) | (simp; omega) | omega) _ _ | refine Below.setCell ?_ (by first | exact Nat.le_refl _ | (simp; done) | (simp; omega) | omega) _ | assumption)) (b3.mono (by simp))
    have har : w3.heap[w2.heap.size + 1]? = some (.cells #[.int .i64 2, .int .i64 4, .int .i64 8] 3 (0, 0)) := by rw [b3.block _ (by simp)]; exact heap_at_new (by simp)
    have hpa : w3.heap[w2.heap.size]? = some (.cells #[.int .i64 t0, .int .i64 t1, .int .i64 t2, .int .i64 t3, .int .i64 t4, .int .i64 t5, .int .i64 t6, .int .i64 t7, .int .i64 t8, .int .i64 t9, .int .i64 t10, .int .i64 t11] 30 (0, 0)) := by rw [b23.block _ (by omega), heap_alloc_new]
    have hca : w3.heap[w1.heap.size]? = some (.cells #[.int .i64 cW, .int .i64 cH, .int .i64 cZ, .int .i64 cN, .bool cD, .int .i64 cL, .int .i64 cF] 24 (0, 0)) := by rw [b23.block _ (by omega), Below.block (Below.alloc (Below.refl _ _) (Nat.le_refl _) _) _ hs2]; exact HC2.out
    have B3 := Lib.hid (B2'.out.trans (b23.mono (by omega)))
    have hs3 : w2.heap.size < w3.heap.size := (Array.getElem?_eq_some_iff.1 hpa).1
    have hs13 : w1.heap.size < w3.heap.size := (Array.getElem?_eq_some_iff.1 hca).1
    have ls : w2.heap.size + 1 < w3.heap.size := (Array.getElem?_eq_some_iff.1 har).1
    have d0 : w3.cell? ⟨w2.heap.size, 0, none⟩ = some (.int .i64 t0) := by rw [cell_of_row w3 _ 0 _ _ (0, 0) hpa]; rfl
    have d1 : w3.cell? ⟨w2.heap.size, 1, none⟩ = some (.int .i64 t1) := by rw [cell_of_row w3 _ 1 _ _ (0, 0) hpa]; rfl
    have d2 : w3.cell? ⟨w2.heap.size, 2, none⟩ = some (.int .i64 t2) := by rw [cell_of_row w3 _ 2 _ _ (0, 0) hpa]; rfl
    have d3 : w3.cell? ⟨w2.heap.size, 3, none⟩ = some (.int .i64 t3) := by rw [cell_of_row w3 _ 3 _ _ (0, 0) hpa]; rfl
    have d4 : w3.cell? ⟨w2.heap.size, 4, none⟩ = some (.int .i64 t4) := by rw [cell_of_row w3 _ 4 _ _ (0, 0) hpa]; rfl
    have d5 : w3.cell? ⟨w2.heap.size, 5, none⟩ = some (.int .i64 t5) := by rw [cell_of_row w3 _ 5 _ _ (0, 0) hpa]; rfl
    have d6 : w3.cell? ⟨w2.heap.size, 6, none⟩ = some (.int .i64 t6) := by rw [cell_of_row w3 _ 6 _ _ (0, 0) hpa]; rfl
    have d7 : w3.cell? ⟨w2.heap.size, 7, none⟩ = some (.int .i64 t7) := by rw [cell_of_row w3 _ 7 _ _ (0, 0) hpa]; rfl
    have d8 : w3.cell? ⟨w2.heap.size, 8, none⟩ = some (.int .i64 t8) := by rw [cell_of_row w3 _ 8 _ _ (0, 0) hpa]; rfl
    have d9 : w3.cell? ⟨w2.heap.size, 9, none⟩ = some (.int .i64 t9) := by rw [cell_of_row w3 _ 9 _ _ (0, 0) hpa]; rfl
    have d10 : w3.cell? ⟨w2.heap.size, 10, none⟩ = some (.int .i64 t10) := by rw [cell_of_row w3 _ 10 _ _ (0, 0) hpa]; rfl
    have d11 : w3.cell? ⟨w2.heap.size, 11, none⟩ = some (.int .i64 t11) := by rw [cell_of_row w3 _ 11 _ _ (0, 0) hpa]; rfl
    have c0 : w3.cell? ⟨w1.heap.size, 0, none⟩ = some (.int .i64 cW) := by rw [cell_of_row w3 _ 0 _ _ (0, 0) hca]; rfl
    have c1 : w3.cell? ⟨w1.heap.size, 1, none⟩ = some (.int .i64 cH) := by rw [cell_of_row w3 _ 1 _ _ (0, 0) hca]; rfl
    have c2 : w3.cell? ⟨w1.heap.size, 2, none⟩ = some (.int .i64 cZ) := by rw [cell_of_row w3 _ 2 _ _ (0, 0) hca]; rfl
    have c3 : w3.cell? ⟨w1.heap.size, 3, none⟩ = some (.int .i64 cN) := by rw [cell_of_row w3 _ 3 _ _ (0, 0) hca]; rfl
    have c5 : w3.cell? ⟨w1.heap.size, 5, none⟩ = some (.int .i64 cL) := by rw [cell_of_row w3 _ 5 _ _ (0, 0) hca]; rfl
    have c6 : w3.cell? ⟨w1.heap.size, 6, none⟩ = some (.int .i64 cF) := by rw [cell_of_row w3 _ 6 _ _ (0, 0) hca]; rfl
    have c4 : w3.cell? ⟨w1.heap.size, 4, none⟩ = some (.bool cD) := by rw [cell_of_row w3 _ 4 _ _ (0, 0) hca]; rfl
    obtain ⟨y, hx2, hy4⟩ : ∃ y : Nat, x % 3 = (y : Int) ∧ y < 3 := ⟨(x % 3).toNat, by omega, by omega⟩
    have hx1 : x.tmod 3 = (y : Int) := by rw [Int.tmod_eq_emod_of_nonneg x1]; exact hx2
    have hyi : (y : Int) < 3 := by omega
    obtain ⟨k, hk, gN⟩ : ∃ k : Nat, (k = 1 ∨ k = 2 ∨ k = 4) ∧ w3.cell? ⟨w2.heap.size + 1, y, none⟩ = some (.int .i64 (2 * (k : Int))) := by
      have hy : y = 0 ∨ y = 1 ∨ y = 2 := by omega
      rcases hy with rfl | rfl | rfl
      · exact ⟨1, by decide, by rw [cell_of_row w3 _ _ _ _ (0, 0) har]; rfl⟩
      · exact ⟨2, by decide, by rw [cell_of_row w3 _ _ _ _ (0, 0) har]; rfl⟩
      · exact ⟨4, by decide, by rw [cell_of_row w3 _ _ _ _ (0, 0) har]; rfl⟩
    have HK := Lib.hid hk
    obtain ⟨cc, hcc⟩ : ∃ cc : CamD, cc = ⟨cW, cH, cZ, cN, cD, cL, cF⟩ := ⟨_, rfl⟩
    obtain ⟨pp, hpp⟩ : ∃ pp : PatD, pp = ⟨t0, t1, t2, t3, t4, t5, t6, t7, t8, t9, t10, t11⟩ := ⟨_, rfl⟩
    have HRP := Lib.hid (show (cc.ok && pp.ok && inB 1000 1 1000) = true by rw [hcc, hpp]; simp only [CamD.ok, PatD.ok, HCAM.out, HPAT.out]; rfl)
    have HCALL := Lib.hid (show ∀ m lx w, Calls Try.prog 18 #[camV cW cH cZ cN cD cL cF, patV t0 t1 t2 t3 t4 t5 t6 t7 t8 t9 t10 t11, .int .i64 m, .int .i64 lx, .int .i64 4] w (Gives w 12 (dsD cc pp 0 0 1 m lx 4).length (MicropolygonD.at (dsD cc pp 0 0 1 m lx 4))) from fun m lx w => by rw [hcc, hpp]; exact impl_DicePatch_c _ _ _ _ _ _)
    have HCALS := Lib.hid (show ∀ U V m lx w, Calls Try.prog 20 #[camV cW cH cZ cN cD cL cF, patV t0 t1 t2 t3 t4 t5 t6 t7 t8 t9 t10 t11, .agg #[.int .i64 U, .int .i64 V, .int .i64 2], .int .i64 m, .int .i64 lx, .int .i64 4] w (Gives w 12 (dsD cc pp U V 2 m lx 4).length (MicropolygonD.at (dsD cc pp U V 2 m lx 4))) from fun U V m lx w => by rw [hcc, hpp]; exact impl_DiceSubPatch_c _ _ _ _ _ _ _ _ _)
    have HCALR := Lib.hid (show ∀ w, Calls Try.prog 21 #[camV cW cH cZ cN cD cL cF, patV t0 t1 t2 t3 t4 t5 t6 t7 t8 t9 t10 t11, .int .i64 1000] w fun e w' => e = .returned (.int .i64 (rateD cc pp 1000)) ∧ Below w.heap.size w w' from fun w => by rw [hcc, hpp]; exact impl_DiceRate_c _ _ _ _)
    have hrp := rate_pos HRP.out
    generalize rateD cc pp 1000 = RT at *
    have HBS := Lib.hid (HB.out.below B3.out)
    clear b3 b23 har hpa hca B1' B2' HC2 HB hk hcc hpp
    go_wp2_with fail
    refine (MakeNum_k a n cap C 2 _ (HBS.out.below (by repeat (first | exact Below.refl _ _ | refine Below.drew ?_ | refine Below.alloc ?_ (by first | exact Nat.le_refl _ | (simp; done) | (simp; omega) | omega) _ | refine Below.more ?_ (by first | exact Nat.le_refl _ | (simp; done) | (simp; omega) | omega) _ _ | refine Below.setCell ?_ (by first | exact Nat.le_refl _ | (simp; done) | (simp; omega) | omega) _ | assumption))) hbig (by omega) (by omega)).mono ?_
    rintro e w4 ⟨z, z1, z2, rfl, b4⟩
    have b34 : Below w3.heap.size w3 w4 := (show Below w3.heap.size w3 _ from (by repeat (first | exact Below.refl _ _ | refine Below.drew ?_ | refine Below.alloc ?_ (by first | exact Nat.le_refl _ | (simp; done) | (simp; omega) | omega) _ | refine Below.more ?_ (by first | exact Nat.le_refl _ | (simp; done) | (simp; omega) | omega) _ _ | refine Below.setCell ?_ (by first | exact Nat.le_refl _ | (simp; done) | (simp; omega) | omega) _ | assumption))).trans (b4.mono (by first | (simp; done) | (simp; omega)))
    have qz : z.tmod 33 = z % 33 := Int.tmod_eq_emod_of_nonneg z1
    have qz2 : IntKind.i64.wrap (z % 33 - 16) = z % 33 - 16 := IntWalk.i64_in _ (by omega)
    replace c0 := cell_below b34 c0
    replace c1 := cell_below b34 c1
    replace c2 := cell_below b34 c2
    replace c3 := cell_below b34 c3
    replace c4 := cell_below b34 c4
    replace c5 := cell_below b34 c5
    replace c6 := cell_below b34 c6
    replace d0 := cell_below b34 d0
    replace d1 := cell_below b34 d1
    replace d2 := cell_below b34 d2
    replace d3 := cell_below b34 d3
    replace d4 := cell_below b34 d4
    replace d5 := cell_below b34 d5
    replace d6 := cell_below b34 d6
    replace d7 := cell_below b34 d7
    replace d8 := cell_below b34 d8
    replace d9 := cell_below b34 d9
    replace d10 := cell_below b34 d10
    replace d11 := cell_below b34 d11
    have l1 : w1.heap.size < w4.heap.size := World.block_lt_of_cell? _ _ c0
    have l2 : w2.heap.size < w4.heap.size := World.block_lt_of_cell? _ _ d0
    have B4 := Lib.hid (B3.out.trans (b34.mono B3.out.size))
    clear b4 b34 gN B3 HBS ls
    obtain ⟨L, hL⟩ : ∃ L, L = z % 33 - 16 := ⟨_, rfl⟩
    rw [← hL] at qz2
    have qz3 : z % 33 - 16 = L := hL.symm
    clear hL
    have HAN := Lib.hid (dsD_len cc pp 0 0 1 (2 * (k : Int)) L 4)
    have HQN := Lib.hid (fun i : Nat => dsD_len cc pp ((i : Int) % 2) ((i : Int) / 2) 2 (2 * (k : Int)) L 4)
    have HMEM := Lib.hid (fun i (hi : i < 4) m hm => quarter_mem (c := cc) (p := pp) (lx := L) (ly := 4) HK.out (i := i) hi (m := m) hm)
    have HSUM := Lib.hid (quarters_len cc pp L 4 HK.out)
    have HSS := Lib.hid (fun t => sumQ_succ cc pp (2 * (k : Int)) L 4 t)
    have HS0 := Lib.hid (show sumQ cc pp (2 * (k : Int)) L 4 0 = 0 from rfl)
    have HQD := Lib.hid (fun i : Nat => (show dsD cc pp ((i : Int) % 2) ((i : Int) / 2) 2 (2 * (k : Int)) L 4 = quarterD cc pp (2 * (k : Int)) L 4 i from rfl))
    have HDA := Lib.hid (fun w => HCALL.out (2 * (k : Int)) L w)
    have HDS := Lib.hid (fun (i : Nat) w => HCALS.out ((i : Int) % 2) ((i : Int) / 2) (2 * (k : Int)) L w)
    clear HCALL HCALS
    simp only [HQD.out] at HDS HQN
    generalize dsD cc pp 0 0 1 (2 * (k : Int)) L 4 = AL at *
    generalize quarterD cc pp (2 * (k : Int)) L 4 = QD at *
    generalize sumQ cc pp (2 * (k : Int)) L 4 = SQ at *
    have HSB := Lib.hid (show ∀ t, t ≤ 4 → SQ t ≤ 4194304 from fun t ht => by
      have h1 := HSS.out 0
      have h2 := HSS.out 1
      have h3 := HSS.out 2
      have h4 := HSS.out 3
      have h0 := HS0.out
      have g0 := HQN.out 0
      have g1 := HQN.out 1
      have g2 := HQN.out 2
      have g3 := HQN.out 3
      have ht' : t = 0 ∨ t = 1 ∨ t = 2 ∨ t = 3 ∨ t = 4 := by omega
      simp only [Nat.zero_add, Nat.reduceAdd] at h1 h2 h3 h4
      rcases ht' with rfl | rfl | rfl | rfl | rfl <;> omega)
    go_wp2_with fail
    refine (HDA.out _).mono ?_
    rintro e w5 ⟨ga, gcap, rfl, hoa, b5⟩
    have HOA := Lib.hid hoa.sl
    have B5 := Lib.hid (B4.out.trans (b5.mono B4.out.size))
    replace c0 := cell_below b5 c0
    replace c1 := cell_below b5 c1
    replace c2 := cell_below b5 c2
    replace c3 := cell_below b5 c3
    replace c4 := cell_below b5 c4
    replace c5 := cell_below b5 c5
    replace c6 := cell_below b5 c6
    replace d0 := cell_below b5 d0
    replace d1 := cell_below b5 d1
    replace d2 := cell_below b5 d2
    replace d3 := cell_below b5 d3
    replace d4 := cell_below b5 d4
    replace d5 := cell_below b5 d5
    replace d6 := cell_below b5 d6
    replace d7 := cell_below b5 d7
    replace d8 := cell_below b5 d8
    replace d9 := cell_below b5 d9
    replace d10 := cell_below b5 d10
    replace d11 := cell_below b5 d11
    clear hoa b5 B4 HDA
    go_wp2_with fail
    refine (impl_Split_c _).mono ?_
    rintro e w6 ⟨sa, scap, rfl, hos, b6⟩
    have HOS := Lib.hid hos.sl
    have HOA6 := Lib.hid (HOA.out.below b6)
    have B6 := Lib.hid (B5.out.trans (b6.mono B5.out.size))
    replace c0 := cell_below b6 c0
    replace c1 := cell_below b6 c1
    replace c2 := cell_below b6 c2
    replace c3 := cell_below b6 c3
    replace c4 := cell_below b6 c4
    replace c5 := cell_below b6 c5
    replace c6 := cell_below b6 c6
    replace d0 := cell_below b6 d0
    replace d1 := cell_below b6 d1
    replace d2 := cell_below b6 d2
    replace d3 := cell_below b6 d3
    replace d4 := cell_below b6 d4
    replace d5 := cell_below b6 d5
    replace d6 := cell_below b6 d6
    replace d7 := cell_below b6 d7
    replace d8 := cell_below b6 d8
    replace d9 := cell_below b6 d9
    replace d10 := cell_below b6 d10
    replace d11 := cell_below b6 d11
    clear hos b6 B5 HOA
    obtain ⟨nA, hnA⟩ : ∃ nA, nA = AL.length := ⟨_, rfl⟩
    have HNA := Lib.hid hnA
    have hA20 : nA ≤ 1048576 := by rw [hnA]; exact HAN.out
    rw [← hnA] at HOA6 HSUM ⊢
    clear hnA
    go_wp2
    go_loopw [8, 42] (fun cnt iv wr => ∃ i : Nat, i ≤ 4 ∧ iv = .int .i64 i ∧ cnt = .int .i64 ((SQ i : Nat) : Int) ∧ Below w6.heap.size w6 wr) (fun _ iv _ => 4 - (intOf iv).toNat)
    case atStart => exact ⟨0, by omega, rfl, by rw [HS0.out]; rfl, Below.refl _ _⟩
    case round =>
      obtain ⟨i, hi, rfl, rfl, hbel⟩ := hrel
      have HBEL := Lib.hid hbel
      replace c0 := cell_below hbel c0
      replace c1 := cell_below hbel c1
      replace c2 := cell_below hbel c2
      replace c3 := cell_below hbel c3
      replace c4 := cell_below hbel c4
      replace c5 := cell_below hbel c5
      replace c6 := cell_below hbel c6
      replace d0 := cell_below hbel d0
      replace d1 := cell_below hbel d1
      replace d2 := cell_below hbel d2
      replace d3 := cell_below hbel d3
      replace d4 := cell_below hbel d4
      replace d5 := cell_below hbel d5
      replace d6 := cell_below hbel d6
      replace d7 := cell_below hbel d7
      replace d8 := cell_below hbel d8
      replace d9 := cell_below hbel d9
      replace d10 := cell_below hbel d10
      replace d11 := cell_below hbel d11
      have l1r : w1.heap.size < wr.heap.size := World.block_lt_of_cell? _ _ c0
      have l2r : w2.heap.size < wr.heap.size := World.block_lt_of_cell? _ _ d0
      clear l1 l2
      by_cases hlt : i < 4
      · have hlt1 : (i : Int) < 4 := by omega
        obtain ⟨sb, so, rfl, hsb, hsc⟩ := (HOS.out.below hbel) (by omega)
        have s0 : wr.cell? ⟨sb, so + i * 3, none⟩ = some (.int .i64 ((i : Int) % 2)) := hsc i hlt 0 (by omega)
        have s1 : wr.cell? ⟨sb, so + i * 3 + 1, none⟩ = some (.int .i64 ((i : Int) / 2)) := hsc i hlt 1 (by omega)
        have s2 : wr.cell? ⟨sb, so + i * 3 + 2, none⟩ = some (.int .i64 2) := hsc i hlt 2 (by omega)
        have HDI := Lib.hid (HDS.out i)
        have HMI := Lib.hid (HMEM.out i hlt)
        have hQ20 := HQN.out i
        have HSI := Lib.hid (HSS.out i)
        have hSb := HSB.out i (by omega)
        clear hsc hbel
        generalize QD i = Q at *
        generalize SQ i = S at *
        obtain ⟨nQ, hnQ⟩ : ∃ nQ, nQ = Q.length := ⟨_, rfl⟩
        have HNQ := Lib.hid hnQ
        rw [← hnQ] at HDI HSI hQ20
        clear hnQ
        have qc : IntKind.i64.wrap ((S : Int) + (nQ : Int)) = ((S + nQ : Nat) : Int) := by rw [Int.natCast_add]; exact IntWalk.i64_in _ (by omega)
        go_wp2_with fail
        refine (HDI.out _).mono ?_
        rintro e w7 ⟨pa, pcap, rfl, hop, b7⟩
        have HOP := Lib.hid hop.sl
        have b67 : Below wr.heap.size wr w7 := Below.trans (show Below wr.heap.size wr _ from (by repeat (first | exact Below.refl _ _ | refine Below.drew ?_ | refine Below.alloc ?_ (by first | exact Nat.le_refl _ | (simp; done) | (simp; omega) | omega) _ | refine Below.more ?_ (by first | exact Nat.le_refl _ | (simp; done) | (simp; omega) | omega) _ _ | refine Below.setCell ?_ (by first | exact Nat.le_refl _ | (simp; done) | (simp; omega) | omega) _ | assumption))) (b7.mono (by simp))
        have HB7 := Lib.hid (HBEL.out.trans (b67.mono HBEL.out.size))
        clear hop b7 b67 s0 s1 s2
        go_wp2
        go_loopw [58] (fun jv wr => ∃ j : Nat, j ≤ nQ ∧ jv = .int .i64 j ∧ Below w7.heap.size w7 wr) (fun jv _ => nQ - (intOf jv).toNat)
        case atStart => exact ⟨0, by omega, rfl, Below.refl _ _⟩
        case round =>
          obtain ⟨j, hj, rfl, hbelj⟩ := hrel
          have HBJ := Lib.hid hbelj
          by_cases hltj : j < nQ
          · have hltj1 : (j : Int) < (nQ : Int) := by omega
            obtain ⟨pb, po, rfl, hpb, hpc⟩ := (HOP.out.below hbelj) (by omega)
            have e0 : wr.cell? ⟨pb, po + j * 12, none⟩ = some (.int .i64 (Q.getD j default).f0) := hpc j hltj 0 (by omega)
            have e1 : wr.cell? ⟨pb, po + j * 12 + 1, none⟩ = some (.int .i64 (Q.getD j default).f1) := hpc j hltj 1 (by omega)
            have e2 : wr.cell? ⟨pb, po + j * 12 + 2, none⟩ = some (.int .i64 (Q.getD j default).f2) := hpc j hltj 2 (by omega)
            have e3 : wr.cell? ⟨pb, po + j * 12 + 3, none⟩ = some (.int .i64 (Q.getD j default).f3) := hpc j hltj 3 (by omega)
            have e4 : wr.cell? ⟨pb, po + j * 12 + 4, none⟩ = some (.int .i64 (Q.getD j default).f4) := hpc j hltj 4 (by omega)
            have e5 : wr.cell? ⟨pb, po + j * 12 + 5, none⟩ = some (.int .i64 (Q.getD j default).f5) := hpc j hltj 5 (by omega)
            have e6 : wr.cell? ⟨pb, po + j * 12 + 6, none⟩ = some (.int .i64 (Q.getD j default).f6) := hpc j hltj 6 (by omega)
            have e7 : wr.cell? ⟨pb, po + j * 12 + 7, none⟩ = some (.int .i64 (Q.getD j default).f7) := hpc j hltj 7 (by omega)
            have e8 : wr.cell? ⟨pb, po + j * 12 + 8, none⟩ = some (.int .i64 (Q.getD j default).f8) := hpc j hltj 8 (by omega)
            have e9 : wr.cell? ⟨pb, po + j * 12 + 9, none⟩ = some (.int .i64 (Q.getD j default).f9) := hpc j hltj 9 (by omega)
            have e10 : wr.cell? ⟨pb, po + j * 12 + 10, none⟩ = some (.int .i64 (Q.getD j default).f10) := hpc j hltj 10 (by omega)
            have e11 : wr.cell? ⟨pb, po + j * 12 + 11, none⟩ = some (.int .i64 (Q.getD j default).f11) := hpc j hltj 11 (by omega)
            have HMM := Lib.hid (show Q.getD j default ∈ AL from HMI.out _ (by rw [List.getD_eq_getElem?_getD, List.getElem?_eq_getElem (by rw [← HNQ.out]; exact hltj)]; exact List.getElem_mem _))
            clear hpc hbelj
            generalize Q.getD j default = m at *
            obtain ⟨wb, hwb⟩ : ∃ wb, wb = wr.alloc (.cells #[.int .i64 m.f0, .int .i64 m.f1, .int .i64 m.f2, .int .i64 m.f3, .int .i64 m.f4, .int .i64 m.f5, .int .i64 m.f6, .int .i64 m.f7, .int .i64 m.f8, .int .i64 m.f9, .int .i64 m.f10, .int .i64 m.f11] 45) := ⟨_, rfl⟩
            have hmb : wb.heap[wr.heap.size]? = some (.cells #[.int .i64 m.f0, .int .i64 m.f1, .int .i64 m.f2, .int .i64 m.f3, .int .i64 m.f4, .int .i64 m.f5, .int .i64 m.f6, .int .i64 m.f7, .int .i64 m.f8, .int .i64 m.f9, .int .i64 m.f10, .int .i64 m.f11] 45 (0, 0)) := by rw [hwb]; exact heap_alloc_new _ _
            have m0 : wb.cell? ⟨wr.heap.size, 0, none⟩ = some (.int .i64 m.f0) := by rw [cell_of_row wb _ 0 _ _ (0, 0) hmb]; rfl
            have m1 : wb.cell? ⟨wr.heap.size, 1, none⟩ = some (.int .i64 m.f1) := by rw [cell_of_row wb _ 1 _ _ (0, 0) hmb]; rfl
            have m2 : wb.cell? ⟨wr.heap.size, 2, none⟩ = some (.int .i64 m.f2) := by rw [cell_of_row wb _ 2 _ _ (0, 0) hmb]; rfl
            have m3 : wb.cell? ⟨wr.heap.size, 3, none⟩ = some (.int .i64 m.f3) := by rw [cell_of_row wb _ 3 _ _ (0, 0) hmb]; rfl
            have m4 : wb.cell? ⟨wr.heap.size, 4, none⟩ = some (.int .i64 m.f4) := by rw [cell_of_row wb _ 4 _ _ (0, 0) hmb]; rfl
            have m5 : wb.cell? ⟨wr.heap.size, 5, none⟩ = some (.int .i64 m.f5) := by rw [cell_of_row wb _ 5 _ _ (0, 0) hmb]; rfl
            have m6 : wb.cell? ⟨wr.heap.size, 6, none⟩ = some (.int .i64 m.f6) := by rw [cell_of_row wb _ 6 _ _ (0, 0) hmb]; rfl
            have m7 : wb.cell? ⟨wr.heap.size, 7, none⟩ = some (.int .i64 m.f7) := by rw [cell_of_row wb _ 7 _ _ (0, 0) hmb]; rfl
            have m8 : wb.cell? ⟨wr.heap.size, 8, none⟩ = some (.int .i64 m.f8) := by rw [cell_of_row wb _ 8 _ _ (0, 0) hmb]; rfl
            have m9 : wb.cell? ⟨wr.heap.size, 9, none⟩ = some (.int .i64 m.f9) := by rw [cell_of_row wb _ 9 _ _ (0, 0) hmb]; rfl
            have m10 : wb.cell? ⟨wr.heap.size, 10, none⟩ = some (.int .i64 m.f10) := by rw [cell_of_row wb _ 10 _ _ (0, 0) hmb]; rfl
            have m11 : wb.cell? ⟨wr.heap.size, 11, none⟩ = some (.int .i64 m.f11) := by rw [cell_of_row wb _ 11 _ _ (0, 0) hmb]; rfl
            have HWB := Lib.hid hwb
            have HBB := Lib.hid (show Below wr.heap.size wr wb by rw [hwb]; exact (by repeat (first | exact Below.refl _ _ | refine Below.drew ?_ | refine Below.alloc ?_ (by first | exact Nat.le_refl _ | (simp; done) | (simp; omega) | omega) _ | refine Below.more ?_ (by first | exact Nat.le_refl _ | (simp; done) | (simp; omega) | omega) _ _ | refine Below.setCell ?_ (by first | exact Nat.le_refl _ | (simp; done) | (simp; omega) | omega) _ | assumption)))
            clear hwb hmb
            go_wp2
            go_loopw [14, 64] (fun fv tv wx => ∃ (f : Bool) (t : Nat), t ≤ nA ∧ tv = .int .i64 t ∧ fv = .bool f ∧ Below wb.heap.size wb wx ∧ (f = false → ∀ s, s < t → micEq (AL.getD s default) m = false)) (fun _ tv _ => nA - (intOf tv).toNat)
            case atStart => exact ⟨false, 0, by omega, rfl, rfl, by rw [HWB.out]; exact Below.refl _ _, fun _ s hs => absurd hs (Nat.not_lt_zero _)⟩
            case round =>
              rename World => wx
              obtain ⟨f, t, ht, rfl, rfl, hbt, hno⟩ := hrel
              have HNO := Lib.hid hno
              have HBT := Lib.hid hbt
              have hw7 := HB7.out.size
              by_cases hltt : t < nA
              · have hltt1 : (t : Int) < (nA : Int) := by omega
                obtain ⟨ab, ao, rfl, hab, hac⟩ := ((((HOA6.out.below HB7.out).below HBJ.out).below HBB.out).below hbt) (by omega)
                have a0 : wx.cell? ⟨ab, ao + t * 12, none⟩ = some (.int .i64 (AL.getD t default).f0) := hac t hltt 0 (by omega)
                have a1 : wx.cell? ⟨ab, ao + t * 12 + 1, none⟩ = some (.int .i64 (AL.getD t default).f1) := hac t hltt 1 (by omega)
                have a2 : wx.cell? ⟨ab, ao + t * 12 + 2, none⟩ = some (.int .i64 (AL.getD t default).f2) := hac t hltt 2 (by omega)
                have a3 : wx.cell? ⟨ab, ao + t * 12 + 3, none⟩ = some (.int .i64 (AL.getD t default).f3) := hac t hltt 3 (by omega)
                have a4 : wx.cell? ⟨ab, ao + t * 12 + 4, none⟩ = some (.int .i64 (AL.getD t default).f4) := hac t hltt 4 (by omega)
                have a5 : wx.cell? ⟨ab, ao + t * 12 + 5, none⟩ = some (.int .i64 (AL.getD t default).f5) := hac t hltt 5 (by omega)
                have a6 : wx.cell? ⟨ab, ao + t * 12 + 6, none⟩ = some (.int .i64 (AL.getD t default).f6) := hac t hltt 6 (by omega)
                have a7 : wx.cell? ⟨ab, ao + t * 12 + 7, none⟩ = some (.int .i64 (AL.getD t default).f7) := hac t hltt 7 (by omega)
                have a8 : wx.cell? ⟨ab, ao + t * 12 + 8, none⟩ = some (.int .i64 (AL.getD t default).f8) := hac t hltt 8 (by omega)
                have a9 : wx.cell? ⟨ab, ao + t * 12 + 9, none⟩ = some (.int .i64 (AL.getD t default).f9) := hac t hltt 9 (by omega)
                have a10 : wx.cell? ⟨ab, ao + t * 12 + 10, none⟩ = some (.int .i64 (AL.getD t default).f10) := hac t hltt 10 (by omega)
                have a11 : wx.cell? ⟨ab, ao + t * 12 + 11, none⟩ = some (.int .i64 (AL.getD t default).f11) := hac t hltt 11 (by omega)
                replace m0 := cell_below hbt m0
                replace m1 := cell_below hbt m1
                replace m2 := cell_below hbt m2
                replace m3 := cell_below hbt m3
                replace m4 := cell_below hbt m4
                replace m5 := cell_below hbt m5
                replace m6 := cell_below hbt m6
                replace m7 := cell_below hbt m7
                replace m8 := cell_below hbt m8
                replace m9 := cell_below hbt m9
                replace m10 := cell_below hbt m10
                replace m11 := cell_below hbt m11
                have lm : wr.heap.size < wx.heap.size := World.block_lt_of_cell? _ _ m0
                clear hac hbt hno
                generalize hkk : AL.getD t default = kk at *
                have HST := Lib.hid (show f = false → micEq kk m = false → ∀ s, s < t + 1 → micEq (AL.getD s default) m = false from fun h1 h2 s hs => by
                  by_cases he : s = t
                  · rw [he, hkk]; exact h2
                  · exact HNO.out h1 s (by omega))
                clear hkk
                cases f
                · cases hq : micEq kk m
                  · have HN2 := Lib.hid (HST.out rfl hq)
                    obtain ⟨k0, k1, k2, k3, k4, k5, k6, k7, k8, k9, k10, k11⟩ := kk
                    obtain ⟨n0, n1, n2, n3, n4, n5, n6, n7, n8, n9, n10, n11⟩ := m
                    dsimp only at a0 a1 a2 a3 a4 a5 a6 a7 a8 a9 a10 a11 m0 m1 m2 m3 m4 m5 m6 m7 m8 m9 m10 m11
                    go_wp2
                    go_roundw
                    case rel => exact ⟨false, t + 1, by omega, by go_num, rfl, HBT.out.trans (Below.mono (show Below wx.heap.size wx _ from (by repeat (first | exact Below.refl _ _ | refine Below.drew ?_ | refine Below.alloc ?_ (by first | exact Nat.le_refl _ | (simp; done) | (simp; omega) | omega) _ | refine Below.more ?_ (by first | exact Nat.le_refl _ | (simp; done) | (simp; omega) | omega) _ _ | refine Below.setCell ?_ (by first | exact Nat.le_refl _ | (simp; done) | (simp; omega) | omega) _ | assumption))) HBT.out.size), fun _ => HN2.out⟩
                    case measure => simp [intOf]; omega
                  · obtain ⟨k0, k1, k2, k3, k4, k5, k6, k7, k8, k9, k10, k11⟩ := kk
                    obtain ⟨n0, n1, n2, n3, n4, n5, n6, n7, n8, n9, n10, n11⟩ := m
                    dsimp only at a0 a1 a2 a3 a4 a5 a6 a7 a8 a9 a10 a11 m0 m1 m2 m3 m4 m5 m6 m7 m8 m9 m10 m11
                    go_wp2
                    go_roundw
                    case rel => exact ⟨true, t + 1, by omega, by go_num, rfl, HBT.out.trans (Below.mono (show Below wx.heap.size wx _ from (by repeat (first | exact Below.refl _ _ | refine Below.drew ?_ | refine Below.alloc ?_ (by first | exact Nat.le_refl _ | (simp; done) | (simp; omega) | omega) _ | refine Below.more ?_ (by first | exact Nat.le_refl _ | (simp; done) | (simp; omega) | omega) _ _ | refine Below.setCell ?_ (by first | exact Nat.le_refl _ | (simp; done) | (simp; omega) | omega) _ | assumption))) HBT.out.size), fun h => by cases h⟩
                    case measure => simp [intOf]; omega
                · go_wp2
                  go_roundw
                  case rel => exact ⟨true, t + 1, by omega, by go_num, rfl, HBT.out.trans (Below.mono (show Below wx.heap.size wx _ from (by repeat (first | exact Below.refl _ _ | refine Below.drew ?_ | refine Below.alloc ?_ (by first | exact Nat.le_refl _ | (simp; done) | (simp; omega) | omega) _ | refine Below.more ?_ (by first | exact Nat.le_refl _ | (simp; done) | (simp; omega) | omega) _ _ | refine Below.setCell ?_ (by first | exact Nat.le_refl _ | (simp; done) | (simp; omega) | omega) _ | assumption))) HBT.out.size), fun h => by cases h⟩
                  case measure => simp [intOf]; omega
              · obtain rfl : t = nA := by omega
                have hnl : ¬ (t : Int) < (t : Int) := by omega
                cases f
                · exfalso
                  obtain ⟨s, hs, he⟩ := List.getElem_of_mem HMM.out
                  have h1 := HNO.out rfl s (by rw [HNA.out]; exact hs)
                  rw [List.getD_eq_getElem?_getD, List.getElem?_eq_getElem hs, Option.getD_some, he, mic_self] at h1
                  cases h1
                · clear hbt hno
                  go_wp2
                  go_roundw
                  case rel => exact ⟨j + 1, by omega, by go_num, HBJ.out.trans ((HBB.out.trans (HBT.out.mono HBB.out.size)).mono HBJ.out.size)⟩
                  case measure => simp [intOf]; omega
          · obtain rfl : j = nQ := by omega
            have hnl : ¬ (j : Int) < (j : Int) := by omega
            clear hbelj
            go_wp2
            go_roundw
            case rel => exact ⟨i + 1, by omega, by go_num, by rw [HSI.out, Int.natCast_add], HB7.out.trans (HBJ.out.mono HB7.out.size)⟩
            case measure => simp [intOf]; omega
      · obtain rfl : i = 4 := by omega
        have hfe : ((SQ 4 : Nat) : Int) = (nA : Int) := by rw [HSUM.out]
        have hfb : (((SQ 4 : Nat) : Int) == (nA : Int)) = true := by rw [hfe]; simp
        clear hbel
        generalize SQ 4 = S4 at *
        go_wp2_with fail
        refine (HCALR.out _).mono ?_
        rintro e w9 ⟨rfl, hb9⟩
        have HB9 := Lib.hid hb9
        clear hb9
        go_wp2
        go_ret
        exact ⟨rfl, B6.out.trans ((HBEL.out.trans (HB9.out.mono HBEL.out.size)).mono B6.out.size)⟩
  · have hb1 : (n : Int) > 1048576 := by omega
    go_enter Try.func3, Try.ntmps3
    go_wp2
    go_ret
    exact ⟨rfl, (by repeat (first | exact Below.refl _ _ | refine Below.drew ?_ | refine Below.alloc ?_ (by first | exact Nat.le_refl _ | (simp; done) | (simp; omega) | omega) _ | refine Below.more ?_ (by first | exact Nat.le_refl _ | (simp; done) | (simp; omega) | omega) _ _ | refine Below.setCell ?_ (by first | exact Nat.le_refl _ | (simp; done) | (simp; omega) | omega) _ | assumption))⟩
end Go.Proofs.Ytkdkdejgajcneaa
