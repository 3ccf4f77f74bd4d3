/- Dicing a part of a grid: what it comes to, in plain words; append of a diced cell onto an own row; valid parts. -/
import Derived.Test.YtkdkdejgajcneaaDiceCell
namespace Go.Proofs.Ytkdkdejgajcneaa
open Go Go.RowKit
set_option linter.unusedVariables false
/-- The cells of some micropolygons. -/
def micCells (l : List MicropolygonD) : List Value := l.flatMap MicropolygonD.cells
theorem micCells_append (a b : List MicropolygonD) : micCells (a ++ b) = micCells a ++ micCells b := by simp [micCells]
theorem range_map_getD (l : List MicropolygonD) : (List.range l.length).map (fun i => (l.getD i default).cells) = l.map MicropolygonD.cells := by
  apply List.ext_getElem
  · simp
  · intro i h1 h2
    simp only [List.getElem_map, List.getElem_range]
    have hi : i < l.length := by simpa using h1
    rw [List.getD_eq_getElem?_getD, List.getElem?_eq_getElem hi]
    rfl
theorem micCells_flat (l : List MicropolygonD) : flat 12 l.length (MicropolygonD.at l) = micCells l := by
  unfold flat micCells
  rw [show (List.range l.length).map (MicropolygonD.at l) = l.map MicropolygonD.cells from range_map_getD l, List.flatMap_def]
theorem micCells_len (l : List MicropolygonD) : (micCells l).length = l.length * 12 := by rw [← micCells_flat]; exact flat_len (fun _ _ => rfl)
theorem micCells_one (l : List MicropolygonD) : ∀ u ∈ micCells l, u.oneCell' = true := by
  intro u hu
  obtain ⟨m, _, hm⟩ := List.mem_flatMap.1 hu
  simp only [MicropolygonD.cells, List.mem_cons, List.not_mem_nil, or_false] at hm
  rcases hm with rfl | rfl | rfl | rfl | rfl | rfl | rfl | rfl | rfl | rfl | rfl | rfl <;> rfl
/-- The result of dicing a cell, as it lies in a world. -/
def CellR (w : World) (l : List MicropolygonD) (r : Value) : Prop :=
  (l = [] ∧ r = .slice none 0 0) ∨ (l.length = 2 ∧ ∃ g, r = .slice (some ⟨g, 0, none⟩) 2 2 ∧ w.heap[g]? = some (.cells ⟨micCells l⟩ 45 (0, 0)))
theorem CellR.below {w w' : World} {l : List MicropolygonD} {r : Value} (h : CellR w l r) (hb : Below w.heap.size w w') : CellR w' l r := by
  rcases h with h | ⟨h1, g, h2, h3⟩
  · exact .inl h
  · exact .inr ⟨h1, g, h2, by rw [hb.block g (Array.getElem?_eq_some_iff.1 h3).1]; exact h3⟩
theorem CellQ.r {w w' : World} {l : List MicropolygonD} {e : Ending} (h : CellQ w l e w') : ∃ r, e = .returned r ∧ CellR w' l r ∧ Below w.heap.size w w' := by
  obtain ⟨hb, ⟨h1, h2⟩ | ⟨h1, g, h2, _, h3⟩⟩ := h
  · exact ⟨_, h2, .inl ⟨h1, rfl⟩, hb⟩
  · refine ⟨_, h2, .inr ⟨h1, g, rfl, ?_⟩, hb⟩
    rw [h3, ← micCells_flat, h1]
theorem run_append_cell {w : World} {base : Nat} {v r : Value} {L l : List MicropolygonD} (ty : TypeId) (hown : w.ownsRow base 45 12 v L.length (micCells L)) (hr : CellR w l r) (hL : L.length ≤ 1000) (hbase : base ≤ w.heap.size) :
    ∃ v' w', (Builtin.append_ #[34, 34] ty #[v, r]).run Try.prog w = .ok v' w' ∧ w'.ownsRow base 45 12 v' (L ++ l).length (micCells (L ++ l)) ∧ w.grownBy w' v.ownBlock := by
  obtain ⟨i0, hi, hz0, hz1, hz2⟩ := info_parts info_Micropolygon
  rcases hr with ⟨rfl, rfl⟩ | ⟨h2, g, rfl, hg⟩
  · refine ⟨v, w, run_append_owned_none (P := Try.prog) w base 34 ty 45 i0 12 Try.underlying34 hi v L.length _ hown, by simpa using hown, ⟨rfl, rfl, rfl, Nat.le_refl _, fun _ _ _ => rfl⟩⟩
  · obtain ⟨v', w', h3, h4, h5, _⟩ := run_append_own (P := Try.prog) w base 34 ty 45 i0 _ 12 96 Try.underlying34 hi hz0 hz1 hz2 rfl (by decide) v L.length _ hown ⟨g, 0, none⟩ 2 2 (micCells l) (by rw [micCells_len, h2]) (fun j u hu => by
      rw [show (⟨g, 0, none⟩ : Addr).add j = ⟨g, j, none⟩ by (simp only [Addr.add, Nat.zero_add]; split <;> simp_all), cell_of_row w g j ⟨micCells l⟩ _ (0, 0) hg]
      simpa using hu) (micCells_one l) (by simp only [maxLen]; omega) (by omega) hbase
    refine ⟨v', w', h3, ?_, h5⟩
    rw [List.length_append, h2, micCells_append]
    exact h4
theorem wpList_append_cell {w : World} {ops : Array Oper} {rest : List Oper} {o : Oper} {a : Act} {Q : Exit → Act → World → Prop} (hgd : o.guard = none) (s x : Operand)
    (ho : o.op = .call { callee := .builtin .append, args := #[s, x], argTypes := #[34, 34] })
    (base : Nat) (v r : Value) (L l : List MicropolygonD) (hs : a.eval s = v) (hx : a.eval x = r) (hown : w.ownsRow base 45 12 v L.length (micCells L)) (hr : CellR w l r) (hL : L.length ≤ 1000) (hbase : base ≤ w.heap.size)
    (h : ∀ v' w', w'.ownsRow base 45 12 v' (L ++ l).length (micCells (L ++ l)) → Below base w w' → wpList Try.prog ops Q rest (a.put o.dst v') w') : wpList Try.prog ops Q (o :: rest) a w := by
  obtain ⟨v', w', h1, h2, h3⟩ := run_append_cell o.type hown hr hL hbase
  refine wpList_plain hgd fun _ hK => ?_
  unfold Oper.wp execOp
  simp only [ho, resolve, invoke, builtin, Sem.run_bind, Sem.run_pure, Result.andThen_ok, List.map_toArray, List.map_cons, List.map_nil, hs, hx, h1]
  exact hK _ _ (h v' w' h2 (Below.grown (Below.refl _ _) h3 hbase (fun k hk => (hown.lt k hk).1)))
/-- Is a part valid? -/
def pow2B (N : Int) : Bool := decide (N = 1 ∨ N = 2 ∨ N = 4 ∨ N = 8 ∨ N = 16 ∨ N = 32 ∨ N = 64)
def subPOk (U V N : Int) : Bool := pow2B N && inB U 0 (N - 1) && inB V 0 (N - 1)
theorem pow2_bd {N : Int} (h : pow2B N = true) : 1 ≤ N ∧ N ≤ 64 := by
  simp only [pow2B, decide_eq_true_eq] at h
  omega
theorem and_pow2 : ∀ n : Fin 65, 1 ≤ n.1 → ((bits BinOp.and IntKind.i64 (n.1 : Int) ((n.1 : Int) - 1) == 0) = pow2B (n.1 : Int)) := by decide +kernel
theorem and_pow2' {N : Int} (h : inB N 1 64 = true) : (bits BinOp.and IntKind.i64 N (N - 1) == 0) = pow2B N := by
  have h' := inB_true.1 h
  have := and_pow2 ⟨N.toNat, by omega⟩ (by simp; omega)
  simpa [Int.toNat_of_nonneg (show 0 ≤ N by omega)] using this
@[reducible] def subV (U V N : Int) : Value := .agg #[.int .i64 U, .int .i64 V, .int .i64 N]
set_option maxRecDepth 100000 in
theorem impl_IsValidSubPatch_c (U V N : Int) (w : World) :
    Calls Try.prog 60 #[subV U V N] w fun e w' => e = .returned (.bool (subPOk U V N)) ∧ Below w.heap.size w w' := by
  cases hN : inB N 1 64
  · have hp : subPOk U V N = false := by
      cases h : pow2B N
      · simp [subPOk, h]
      · have := pow2_bd h
        rw [inB_true.2 this] at hN; cases hN
    rw [hp]
    go_enter Try.func60, Try.ntmps60
    go_wp2_with (go_at_call 62; refine (within_c _ _ _ _).mono ?_; rw [hN]; rintro e w' ⟨rfl, rfl⟩)
    go_ret
    exact ⟨rfl, (by repeat (first | exact Below.refl _ _ | refine Below.drew ?_ | refine Below.alloc ?_ (by first | exact Nat.le_refl _ | (simp; done) | (simp; omega) | omega) _ | refine Below.more ?_ (by first | exact Nat.le_refl _ | (simp; done) | (simp; omega) | omega) _ _ | refine Below.setCell ?_ (by first | exact Nat.le_refl _ | (simp; done) | (simp; omega) | omega) _ | assumption))⟩
  · have hb := and_pow2' hN
    have hN' := inB_true.1 hN
    have qn : IntKind.i64.wrap (N - 1) = N - 1 := IntWalk.i64_in _ (by omega)
    have HE := Lib.hid (show subPOk U V N = (pow2B N && inB U 0 (N - 1) && inB V 0 (N - 1)) from rfl)
    rw [HE.out]
    generalize pow2B N = pb at *
    cases hu : inB U 0 (N - 1)
    · go_enter Try.func60, Try.ntmps60
      go_wp2_with (go_at_call 62; refine (within_c _ _ _ _).mono ?_; (first | rw [hN] | rw [hu]); rintro e w' ⟨rfl, rfl⟩)
      all_goals (go_ret; refine ⟨ret_bool ?_, (by repeat (first | exact Below.refl _ _ | refine Below.drew ?_ | refine Below.alloc ?_ (by first | exact Nat.le_refl _ | (simp; done) | (simp; omega) | omega) _ | refine Below.more ?_ (by first | exact Nat.le_refl _ | (simp; done) | (simp; omega) | omega) _ _ | refine Below.setCell ?_ (by first | exact Nat.le_refl _ | (simp; done) | (simp; omega) | omega) _ | assumption))⟩; simp)
    · cases hv : inB V 0 (N - 1)
      all_goals
        go_enter Try.func60, Try.ntmps60
        go_wp2_with (go_at_call 62; refine (within_c _ _ _ _).mono ?_; (first | rw [hN] | rw [hu] | rw [hv]); rintro e w' ⟨rfl, rfl⟩)
        all_goals (go_ret; refine ⟨ret_bool ?_, (by repeat (first | exact Below.refl _ _ | refine Below.drew ?_ | refine Below.alloc ?_ (by first | exact Nat.le_refl _ | (simp; done) | (simp; omega) | omega) _ | refine Below.more ?_ (by first | exact Nat.le_refl _ | (simp; done) | (simp; omega) | omega) _ _ | refine Below.setCell ?_ (by first | exact Nat.le_refl _ | (simp; done) | (simp; omega) | omega) _ | assumption))⟩; simp_all)
set_option maxRecDepth 100000 in
set_option maxHeartbeats 2000000 in
theorem spec_IsValidSubPatch_c (U V N : Int) (w : World) :
    Calls Try.prog 75 #[subV U V N] w fun e w' => e = .returned (.bool (subPOk U V N)) ∧ Below w.heap.size w w' := by
  cases hp : pow2B N
  · have hs : subPOk U V N = false := by simp [subPOk, hp]
    rw [hs]
    have hne : N ≠ 1 ∧ N ≠ 2 ∧ N ≠ 4 ∧ N ≠ 8 ∧ N ≠ 16 ∧ N ≠ 32 ∧ N ≠ 64 := by
      simp only [pow2B, decide_eq_false_iff_not, not_or] at hp
      exact hp
    obtain ⟨n1, n2, n3, n4, n5, n6, n7⟩ := hne
    have m1 := Ne.symm n1
    have m2 := Ne.symm n2
    have m3 := Ne.symm n3
    have m4 := Ne.symm n4
    have m5 := Ne.symm n5
    have m6 := Ne.symm n6
    have m7 := Ne.symm n7
    clear hp hs n1 n2 n3 n4 n5 n6 n7
    go_enter Try.func75, Try.ntmps75
    go_wp2
    refine wp_loop_rounds 8 ?_
    rw [rounds_succ]; go_wp2
    rw [rounds_succ]; go_wp2
    rw [rounds_succ]; go_wp2
    rw [rounds_succ]; go_wp2
    rw [rounds_succ]; go_wp2
    rw [rounds_succ]; go_wp2
    rw [rounds_succ]; go_wp2
    rw [rounds_succ]; go_wp2
    go_ret
    exact ⟨rfl, (by repeat (first | exact Below.refl _ _ | refine Below.drew ?_ | refine Below.alloc ?_ (by first | exact Nat.le_refl _ | (simp; done) | (simp; omega) | omega) _ | refine Below.more ?_ (by first | exact Nat.le_refl _ | (simp; done) | (simp; omega) | omega) _ _ | refine Below.setCell ?_ (by first | exact Nat.le_refl _ | (simp; done) | (simp; omega) | omega) _ | assumption))⟩
  · have hs : subPOk U V N = (inB U 0 (N - 1) && inB V 0 (N - 1)) := by simp [subPOk, hp]
    rw [hs]
    simp only [pow2B, decide_eq_true_eq] at hp
    clear hs
    rcases hp with rfl | rfl | rfl | rfl | rfl | rfl | rfl
    all_goals
      go_enter Try.func75, Try.ntmps75
      go_wp2
      refine wp_loop_rounds 8 ?_
      rw [rounds_succ]; go_wp2
      rw [rounds_succ]; go_wp2
      rw [rounds_succ]; go_wp2
      rw [rounds_succ]; go_wp2
      rw [rounds_succ]; go_wp2
      rw [rounds_succ]; go_wp2
      rw [rounds_succ]; go_wp2
      rw [rounds_succ]
      go_wp2_with (go_at_call 68; refine (l01In_c _ _ _ _).mono ?_; rintro e w' ⟨rfl, rfl⟩)
      all_goals (go_ret; refine ⟨ret_bool ?_, (by repeat (first | exact Below.refl _ _ | refine Below.drew ?_ | refine Below.alloc ?_ (by first | exact Nat.le_refl _ | (simp; done) | (simp; omega) | omega) _ | refine Below.more ?_ (by first | exact Nat.le_refl _ | (simp; done) | (simp; omega) | omega) _ _ | refine Below.setCell ?_ (by first | exact Nat.le_refl _ | (simp; done) | (simp; omega) | omega) _ | assumption))⟩; simp_all)
end Go.Proofs.Ytkdkdejgajcneaa
