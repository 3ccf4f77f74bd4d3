/- Contract of impl.DiceCell: no cell of the grid; the steps of its loop. -/
import Derived.Test.YtkdkdejgajcneaaDiceS2
import Derived.Test.YtkdkdejgajcneaaCells
import Derived.Test.YtkdkdejgajcneaaFresh
import Derived.RangeFuncFrom
import Derived.RangeFuncNested
namespace Go.Proofs.Ytkdkdejgajcneaa
open Go Go.RowKit Go.Shelf
attribute [local go_sem] Oper.semAt_some
set_option linter.unusedVariables false
theorem KeepB.boxed {W W' : World} {b : Nat} {t : TypeId} {v : Value} (h : Boxed W b t v) (h' : Boxed W' b t v) : KeepB b W W' := fun u hu => by
  have e := h.cell.symm.trans hu
  cases e
  exact h'.cell
theorem Boxed.below {W W' : World} {b : Nat} {t : TypeId} {v : Value} (h : Boxed W b t v) (hb : Below W.heap.size W W') : Boxed W' b t v := (hb.block b h.lt).trans h
theorem Boxed.same {W : World} {b : Nat} {t : TypeId} {v : Value} (h : Boxed W b t v) : W.setCell ⟨b, 0, none⟩ v = W := by
  have e := putB_self (arr := [v]) h
  rw [← e]
  rw [setCell_putB 0 v h.lt]
  rfl
theorem wpListIn_append_vec {F : Fence} {m : Nat} {w : World} {ops : Array Oper} {rest : List Oper} {o : Oper} {a : Act} {Q : Exit → Act → World → Prop} (hgd : o.guard = none) (s x : Operand)
    (ho : o.op = .call { callee := .builtin .append, args := #[s, x], argTypes := #[110, 110] })
    (base : Nat) (v : Value) (n : Nat) (xs : List Value) (hs : a.eval s = v) (hown : w.ownsRow base 27 3 v n xs)
    (g : Nat) (p : VecD) (hx : a.eval x = .slice (some ⟨g, 0, none⟩) 1 1) (hg : w.heap[g]? = some (.cells ⟨p.cells⟩ 27 (0, 0))) (hn : n ≤ 1000) (hbase : base ≤ w.heap.size)
    (h : ∀ v' w', w'.ownsRow base 27 3 v' (n + 1) (xs ++ p.cells) → w.grownBy w' v.ownBlock → wpListIn F m Try.prog ops Q rest (a.put o.dst v') w') : wpListIn F m Try.prog ops Q (o :: rest) a w := by
  obtain ⟨i0, hi, hz0, hz1, hz2⟩ := info_parts info_VecC
  refine wpListIn_append_own w hgd s x 110 ho base 27 i0 _ 3 24 Try.underlying110 hi hz0 hz1 hz2 rfl (by decide) v n xs hs hown ⟨g, 0, none⟩ 1 1 p.cells hx rfl ?_ ?_ (by simp only [maxLen]; omega) (by omega) hbase ?_
  · intro j u hu
    rw [show (⟨g, 0, none⟩ : Addr).add j = ⟨g, j, none⟩ by (simp only [Addr.add, Nat.zero_add]; split <;> simp_all), cell_of_row w g j ⟨p.cells⟩ _ (0, 0) hg]
    simpa using hu
  · intro u hu
    simp only [VecD.cells, List.mem_cons, List.not_mem_nil, or_false] at hu
    rcases hu with rfl | rfl | rfl <;> rfl
  · intro v' w' h1 h2 _
    exact h v' w' h1 h2
set_option maxRecDepth 100000 in
set_option maxHeartbeats 4000000 in
theorem impl_DiceCell_no (c : CamD) (p : PatD) (u v n lx ly : Int) (w : World) (hin : dcIn u v n = false) :
    Calls Try.prog 26 #[c.val, p.val, .int .i64 u, .int .i64 v, .int .i64 n, .int .i64 lx, .int .i64 ly] w (CellQ w []) := by
  cases hn : inB n 1 64
  · go_enter Try.func26, Try.ntmps26
    go_wp2_with (go_at_call 62; refine (within_c _ _ _ _).mono ?_; rw [hn]; rintro e w' ⟨rfl, rfl⟩)
    exact bodyPost_ret (v := .slice none 0 0) (by simp [results, Try.results26, go_sem]) rfl ⟨(by repeat (first | exact Below.refl _ _ | refine Below.drew ?_ | refine Below.alloc ?_ (by first | exact Nat.le_refl _ | (simp; done) | (simp; omega) | omega) _ | refine Below.more ?_ (by first | exact Nat.le_refl _ | (simp; done) | (simp; omega) | omega) _ _ | refine Below.setCell ?_ (by first | exact Nat.le_refl _ | (simp; done) | (simp; omega) | omega) _ | assumption)), .inl ⟨rfl, rfl⟩⟩
  · have hn' := inB_true.1 hn
    have qn : IntKind.i64.wrap (n - 1) = n - 1 := IntWalk.i64_in _ (by omega)
    cases hu : inB u 0 (n - 1)
    · go_enter Try.func26, Try.ntmps26
      go_wp2_with (go_at_call 62; refine (within_c _ _ _ _).mono ?_; (first | rw [hn] | rw [hu]); rintro e w' ⟨rfl, rfl⟩)
      exact bodyPost_ret (v := .slice none 0 0) (by simp [results, Try.results26, go_sem]) rfl ⟨(by repeat (first | exact Below.refl _ _ | refine Below.drew ?_ | refine Below.alloc ?_ (by first | exact Nat.le_refl _ | (simp; done) | (simp; omega) | omega) _ | refine Below.more ?_ (by first | exact Nat.le_refl _ | (simp; done) | (simp; omega) | omega) _ _ | refine Below.setCell ?_ (by first | exact Nat.le_refl _ | (simp; done) | (simp; omega) | omega) _ | assumption)), .inl ⟨rfl, rfl⟩⟩
    · have hv : inB v 0 (n - 1) = false := by simpa [dcIn, hn, hu] using hin
      go_enter Try.func26, Try.ntmps26
      go_wp2_with (go_at_call 62; refine (within_c _ _ _ _).mono ?_; (first | rw [hn] | rw [hu] | rw [hv]); rintro e w' ⟨rfl, rfl⟩)
      exact bodyPost_ret (v := .slice none 0 0) (by simp [results, Try.results26, go_sem]) rfl ⟨(by repeat (first | exact Below.refl _ _ | refine Below.drew ?_ | refine Below.alloc ?_ (by first | exact Nat.le_refl _ | (simp; done) | (simp; omega) | omega) _ | refine Below.more ?_ (by first | exact Nat.le_refl _ | (simp; done) | (simp; omega) | omega) _ _ | refine Below.setCell ?_ (by first | exact Nat.le_refl _ | (simp; done) | (simp; omega) | omega) _ | assumption)), .inl ⟨rfl, rfl⟩⟩
theorem dice_results (tm : Array Value) (b : Nat) (v : Value) (W : World) (ht : tm[14]?.getD undef = .pointer (some ⟨b, 0, none⟩)) (hc : W.cell? ⟨b, 0, none⟩ = some v) : (results Try.f26 tm).run Try.prog W = .ok v W := by
  simp [results, Try.results26, ht, go_sem, hc]
/-- The points of some corners. -/
def ptsL (PT : Nat → VecD) (pre : List (Fin (2 * 2))) : List Value := pre.flatMap fun x => (PT x.1).cells
theorem ptsL_snoc (PT : Nat → VecD) (pre : List (Fin (2 * 2))) (x : Fin (2 * 2)) : ptsL PT (pre ++ [x]) = ptsL PT pre ++ (PT x.1).cells := by simp [ptsL]
/-- The seven parameters in their boxes. -/
structure SevenB (w : World) (B : Nat) (c : CamD) (p : PatD) (u v n lx ly : Int) : Prop where
  cp : CPBox w B c p
  u : w.cell? ⟨B + 1 + 1, 0, none⟩ = some (.int .i64 u)
  v : w.cell? ⟨B + 1 + 1 + 1, 0, none⟩ = some (.int .i64 v)
  n : w.cell? ⟨B + 1 + 1 + 1 + 1, 0, none⟩ = some (.int .i64 n)
  lx : w.cell? ⟨B + 1 + 1 + 1 + 1 + 1, 0, none⟩ = some (.int .i64 lx)
  ly : w.cell? ⟨B + 1 + 1 + 1 + 1 + 1 + 1, 0, none⟩ = some (.int .i64 ly)
theorem SevenB.kept {w w' : World} {B : Nat} {c : CamD} {p : PatD} {u v n lx ly : Int} (h : SevenB w B c p u v n lx ly) (hb : Below w.heap.size w w') : SevenB w' B c p u v n lx ly :=
  ⟨h.cp.kept hb, cell_below hb h.u, cell_below hb h.v, cell_below hb h.n, cell_below hb h.lx, cell_below hb h.ly⟩
set_option maxRecDepth 100000 in
set_option maxHeartbeats 8000000 in
theorem impl_DiceCell_in (c : CamD) (p : PatD) (u v n lx ly : Int) (w : World) (hin : dcIn u v n = true) :
    Calls Try.prog 26 #[c.val, p.val, .int .i64 u, .int .i64 v, .int .i64 n, .int .i64 lx, .int .i64 ly] w (CellQ w (dcD c p u v n lx ly)) := by
  obtain ⟨⟨hn1, hn2⟩, ⟨hu1, hu2⟩, hv1, hv2⟩ := dcIn_bd hin
  have hh := hin
  simp only [dcIn, Bool.and_eq_true] at hh
  obtain ⟨⟨o1, o2⟩, o3⟩ := hh
  have HF := Lib.hid (four 73 53 c p u v n lx ly hin (fun i j h => impl_pt c p i j n lx ly h))
  generalize ptAt c p u v n lx ly = PT at *
  generalize okAt c p u v n lx ly = OK at *
  generalize dcD c p u v n lx ly = DD at *
  have qn1 : IntKind.i64.wrap (n - 1) = n - 1 := IntWalk.i64_in _ (by omega)
  have qz0 : IntKind.i64.wrap 0 = 0 := by decide
  have qz1 : IntKind.i64.wrap 1 = 1 := by decide
  have qu0 : IntKind.i64.wrap u = u := IntWalk.i64_in _ (by omega)
  have qv0 : IntKind.i64.wrap v = v := IntWalk.i64_in _ (by omega)
  have qu1 : IntKind.i64.wrap (u + 1) = u + 1 := IntWalk.i64_in _ (by omega)
  have qv1 : IntKind.i64.wrap (v + 1) = v + 1 := IntWalk.i64_in _ (by omega)
  clear hin
  refine (callsIn_wide (n := 8)).1 ?_
  refine callsIn_of_wp_marks Try.func26 rfl trivial ?_ rfl
  simp only [Try.ntmps26, List.size_toArray, List.length_cons, List.length_nil, Nat.reduceAdd, Nat.reduceSub, Array.replicate_succ, Array.replicate_zero, List.push_toArray, List.append_toArray, List.nil_append, List.cons_append]
  gi_wp2_with (first | (refine ⟨trivial, ?_⟩; gi_at_call 62; refine (callsIn_wide.2 (within_c _ _ _ _)).mono ?_; (first | rw [o1] | rw [o2] | rw [o3]); rintro e w' ⟨rfl, rfl⟩) | (refine ⟨trivial, ?_⟩; gi_at_call 61; refine (callsIn_wide.2 (cells_c _ _)).mono ?_; rintro e w' ⟨rfl, rfl⟩))
  obtain ⟨w1, hw1⟩ : ∃ w1, w1 = (((((((w.alloc (.cells #[.int .i64 c.W, .int .i64 c.H, .int .i64 c.Z, .int .i64 c.N, .bool c.D, .int .i64 c.L, .int .i64 c.F] 24)).alloc (.cells #[.int .i64 p.t0, .int .i64 p.t1, .int .i64 p.t2, .int .i64 p.t3, .int .i64 p.t4, .int .i64 p.t5, .int .i64 p.t6, .int .i64 p.t7, .int .i64 p.t8, .int .i64 p.t9, .int .i64 p.t10, .int .i64 p.t11] 30)).alloc (.cells #[.int .i64 u] 3)).alloc (.cells #[.int .i64 v] 3)).alloc (.cells #[.int .i64 n] 3)).alloc (.cells #[.int .i64 lx] 3)).alloc (.cells #[.int .i64 ly] 3)).alloc (.cells #[.slice none 0 0] 34) := ⟨_, rfl⟩
  have HS7 := Lib.hid (show SevenB w1 w.heap.size c p u v n lx ly by
    rw [hw1]
    exact ⟨(CPBox.new w c p).kept (by repeat (first | exact Below.refl _ _ | refine Below.drew ?_ | refine Below.alloc ?_ (by first | exact Nat.le_refl _ | (simp; done) | (simp; omega) | omega) _ | refine Below.more ?_ (by first | exact Nat.le_refl _ | (simp; done) | (simp; omega) | omega) _ _ | refine Below.setCell ?_ (by first | exact Nat.le_refl _ | (simp; done) | (simp; omega) | omega) _ | assumption)), by simp [go_sem], by simp [go_sem], by simp [go_sem], by simp [go_sem], by simp [go_sem]⟩)
  have HR := Lib.hid (show Boxed w1 (w.heap.size + 1 + 1 + 1 + 1 + 1 + 1 + 1) 34 (.slice none 0 0) by rw [hw1]; exact heap_at_new (by simp))
  have HB1 := Lib.hid (show Below w.heap.size w w1 by rw [hw1]; exact (by repeat (first | exact Below.refl _ _ | refine Below.drew ?_ | refine Below.alloc ?_ (by first | exact Nat.le_refl _ | (simp; done) | (simp; omega) | omega) _ | refine Below.more ?_ (by first | exact Nat.le_refl _ | (simp; done) | (simp; omega) | omega) _ _ | refine Below.setCell ?_ (by first | exact Nat.le_refl _ | (simp; done) | (simp; omega) | omega) _ | assumption)))
  have hsz : w1.heap.size = w.heap.size + 1 + 1 + 1 + 1 + 1 + 1 + 1 + 1 := by rw [hw1]; simp
  rw [← hw1]
  have HSZ := Lib.hid hsz
  clear hw1
  have bZ := World.ownsRow_made (e := 27) (size := 3) (base := w1.heap.size) w1 #[] 0 (by simp) (by decide) (by simp)
  have bO := Boxed.new (w1.alloc (.cells #[] 27)) 110 (.slice (some ⟨w.heap.size + 1 + 1 + 1 + 1 + 1 + 1 + 1 + 1, 0, none⟩) 0 0)
  have bN := Boxed.new ((w1.alloc (.cells #[] 27)).alloc (.cells #[.slice (some ⟨w.heap.size + 1 + 1 + 1 + 1 + 1 + 1 + 1 + 1, 0, none⟩) 0 0] 110)) 3 (.int .i64 2)
  simp only [World.size_alloc, hsz] at bO bN bZ
  have hB0 : Below w1.heap.size w1 (((w1.alloc (.cells #[] 27)).alloc (.cells #[.slice (some ⟨w.heap.size + 1 + 1 + 1 + 1 + 1 + 1 + 1 + 1, 0, none⟩) 0 0] 110)).alloc (.cells #[.int .i64 2] 3)) := (by repeat (first | exact Below.refl _ _ | refine Below.drew ?_ | refine Below.alloc ?_ (by first | exact Nat.le_refl _ | (simp; done) | (simp; omega) | omega) _ | refine Below.more ?_ (by first | exact Nat.le_refl _ | (simp; done) | (simp; omega) | omega) _ _ | refine Below.setCell ?_ (by first | exact Nat.le_refl _ | (simp; done) | (simp; omega) | omega) _ | assumption))
  refine wpIn_rangeFunc_ownF rfl (by omega) (gf := 98) (lb := #[.pointer (some ⟨w.heap.size + 1 + 1 + 1 + 1 + 1 + 1 + 1 + 1 + 1 + 1, 0, none⟩)]) rfl trivial (enters_of Try.func98 (by kernel_rfl) rfl)
    (cells_stops 7 (by omega) (w.heap.size + 1 + 1 + 1 + 1 + 1 + 1 + 1 + 1 + 1 + 1) 2 (by omega) (by omega) _ bN.cell) (fun h k => KeepB.t h k) (KeepB.b (by simp [hsz])) (Below.refl _ _) (fun _ => rfl)
    (fun pre W => ((∃ v', Boxed W (w.heap.size + 1 + 1 + 1 + 1 + 1 + 1 + 1 + 1 + 1) 110 v' ∧ W.ownsRow w1.heap.size 27 3 v' pre.length (ptsL PT pre) ∧ ∀ x ∈ pre, OK x.1 = true) ∧ Boxed W (w.heap.size + 1 + 1 + 1 + 1 + 1 + 1 + 1 + 1 + 1 + 1) 3 (.int .i64 2)) ∧ Below w1.heap.size w1 W)
    (fun cd pre W => (cd = .ret ∧ DD = []) ∧ Below w1.heap.size w1 W)
    (OwnFrom.and (OwnFrom.and (Own.from (holdsRow_own w1.heap.size (w.heap.size + 1 + 1 + 1 + 1 + 1 + 1 + 1 + 1 + 1) 110 27 3 (fun pre => pre.length) (fun pre => ptsL PT pre) (fun pre _ => ∀ x ∈ pre, OK x.1 = true)) _) (Own.from (boxed_own _ _ _) _)) (ownFrom_below (Nat.le_refl _) (by simp; omega)))
    (fun cd => OwnFrom.and (ownFrom_pure _ _) (ownFrom_below (Nat.le_refl _) (by simp; omega)))
    ⟨⟨⟨_, bO.alloc _, by rw [hsz]; exact (bZ.alloc _).alloc _, by simp⟩, bN⟩, hB0⟩ ?a1 ?assign ?body ?done ?stop
  case assign =>
    intro l x W K hK
    simp only [cellsE]
    gi_wp2
    exact hK
  case body =>
    rintro l pre x W ⟨⟨⟨v', hv, hrow, hok⟩, hN⟩, hB⟩ hlt
    have hbx := HS7.out.kept hB
    have hl1 : w.heap.size + 1 + 1 + 1 + 1 + 1 + 1 + 1 < W.heap.size := by have := hB.size; omega
    have hle9 : w1.heap.size ≤ w.heap.size + 1 + 1 + 1 + 1 + 1 + 1 + 1 + 1 + 1 := by omega
    have hne9 : w.heap.size + 1 + 1 + 1 + 1 + 1 + 1 + 1 + 1 + 1 + 1 ≠ w.heap.size + 1 + 1 + 1 + 1 + 1 + 1 + 1 + 1 + 1 := by omega
    have HNE := Lib.hid hne9
    clear hsz hne9
    have hlt0 : w.heap.size + 0 < W.heap.size := by omega
    have hlt1 : w.heap.size + 1 < W.heap.size := by omega
    have hlt2 : w.heap.size + 2 < W.heap.size := by omega
    have hlt3 : w.heap.size + 3 < W.heap.size := by omega
    have hlt4 : w.heap.size + 4 < W.heap.size := by omega
    have hlt5 : w.heap.size + 5 < W.heap.size := by omega
    have c0 : W.cell? ⟨w.heap.size, 0, none⟩ = some (.int .i64 c.W) := hbx.cp.cc 0
    have c1 : W.cell? ⟨w.heap.size, 1, none⟩ = some (.int .i64 c.H) := hbx.cp.cc 1
    have c2 : W.cell? ⟨w.heap.size, 2, none⟩ = some (.int .i64 c.Z) := hbx.cp.cc 2
    have c3 : W.cell? ⟨w.heap.size, 3, none⟩ = some (.int .i64 c.N) := hbx.cp.cc 3
    have c4 : W.cell? ⟨w.heap.size, 4, none⟩ = some (.bool c.D) := hbx.cp.cc 4
    have c5 : W.cell? ⟨w.heap.size, 5, none⟩ = some (.int .i64 c.L) := hbx.cp.cc 5
    have c6 : W.cell? ⟨w.heap.size, 6, none⟩ = some (.int .i64 c.F) := hbx.cp.cc 6
    have d0 : W.cell? ⟨w.heap.size + 1, 0, none⟩ = some (.int .i64 p.t0) := hbx.cp.cp 0
    have d1 : W.cell? ⟨w.heap.size + 1, 1, none⟩ = some (.int .i64 p.t1) := hbx.cp.cp 1
    have d2 : W.cell? ⟨w.heap.size + 1, 2, none⟩ = some (.int .i64 p.t2) := hbx.cp.cp 2
    have d3 : W.cell? ⟨w.heap.size + 1, 3, none⟩ = some (.int .i64 p.t3) := hbx.cp.cp 3
    have d4 : W.cell? ⟨w.heap.size + 1, 4, none⟩ = some (.int .i64 p.t4) := hbx.cp.cp 4
    have d5 : W.cell? ⟨w.heap.size + 1, 5, none⟩ = some (.int .i64 p.t5) := hbx.cp.cp 5
    have d6 : W.cell? ⟨w.heap.size + 1, 6, none⟩ = some (.int .i64 p.t6) := hbx.cp.cp 6
    have d7 : W.cell? ⟨w.heap.size + 1, 7, none⟩ = some (.int .i64 p.t7) := hbx.cp.cp 7
    have d8 : W.cell? ⟨w.heap.size + 1, 8, none⟩ = some (.int .i64 p.t8) := hbx.cp.cp 8
    have d9 : W.cell? ⟨w.heap.size + 1, 9, none⟩ = some (.int .i64 p.t9) := hbx.cp.cp 9
    have d10 : W.cell? ⟨w.heap.size + 1, 10, none⟩ = some (.int .i64 p.t10) := hbx.cp.cp 10
    have d11 : W.cell? ⟨w.heap.size + 1, 11, none⟩ = some (.int .i64 p.t11) := hbx.cp.cp 11
    have eu := hbx.u
    have ev := hbx.v
    have en := hbx.n
    have elx := hbx.lx
    have ely := hbx.ly
    have m0 : w.heap.size < W.heap.size := by omega
    have m1 : w.heap.size + 1 < W.heap.size := by omega
    have m2 : w.heap.size + 1 + 1 < W.heap.size := by omega
    have m3 : w.heap.size + 1 + 1 + 1 < W.heap.size := by omega
    have m4 : w.heap.size + 1 + 1 + 1 + 1 < W.heap.size := by omega
    have m5 : w.heap.size + 1 + 1 + 1 + 1 + 1 < W.heap.size := by omega
    have m6 : w.heap.size + 1 + 1 + 1 + 1 + 1 + 1 < W.heap.size := by omega
    have HV := Lib.hid hv
    have HROW := Lib.hid hrow
    have HOKP := Lib.hid hok
    have HN := Lib.hid hN
    have HB := Lib.hid hB
    have hpl : pre.length ≤ 4 := by omega
    clear hbx hlt0 hlt1 hlt2 hlt3 hlt4 hlt5 hv hrow hok hN hB bZ bO bN hB0
    obtain ⟨k, hk4⟩ := x
    have hkk : k = 0 ∨ k = 1 ∨ k = 2 ∨ k = 3 := by omega
    rcases hkk with rfl | rfl | rfl | rfl
    · obtain ⟨ex, ey, ez, HPt⟩ := HF.out.h0
      have HP := Lib.hid HPt
      have HNO := Lib.hid (HF.out.no 0 (by omega))
      have HOKN := Lib.hid (show OK 0 = true → ∀ x ∈ pre ++ [(⟨0, hk4⟩ : Fin (2 * 2))], OK x.1 = true from fun h x hx => by
        rcases List.mem_append.1 hx with h1 | h1
        · exact HOKP.out x h1
        · obtain rfl : x = ⟨0, hk4⟩ := by simpa using h1
          exact h)
      clear HPt HF
      generalize OK 0 = ok at HNO HOKN HP
      gi_wp2
      refine region_box_in 16 27 [.int .i64 0, .int .i64 0, .int .i64 0] [.int .i64 (PT 0).f0, .int .i64 (PT 0).f1, .int .i64 (PT 0).f2] (by kernel_rfl) (by kernel_rfl) (by kernel_rfl) ?_
      simp only [List.take_succ_cons, List.take_zero, List.drop_succ_cons, List.drop_zero]
      repeat (refine headS_step (fun K hK => ?_); go_simp; refine hK _ ?_; clear hK K)
      (refine headS_step (fun K hK => ?_); go_simp; refine ⟨_, fun zt => calls_stays (HP.out.ev _), hK _ ?_⟩; clear hK K)
      repeat (refine headS_step (fun K hK => ?_); go_simp; refine hK _ ?_; clear hK K)
      (refine headS_step (fun K hK => ?_); go_simp; refine ⟨_, fun zt => calls_stays (HP.out.pr _), hK _ ?_⟩; clear hK K)
      repeat (refine headS_step (fun K hK => ?_); go_simp; refine hK _ ?_; clear hK K)
      refine headS_nil ?_
      refine tail_box (by go_simp) (fun X d => by go_simp) (fun b => by go_simp) (fun b w hb => by go_simp) (fun b => ?_)
      refine tail_quiet (v := .bool ok) (by go_simp) (fun w => by go_simp) ?_
      refine tail_done (fun X1 X2 d1 hb => ?_)
      subst hb
      simp only [onlyN, Act.put, List.setIfInBounds_toArray, List.set_cons_zero, List.set_cons_succ]
      have hWx := Lib.hid (show Below W.heap.size W (more ((more W X1 0).alloc (.cells ⟨[.int .i64 (PT 0).f0, .int .i64 (PT 0).f1, .int .i64 (PT 0).f2]⟩ 27)) X2 d1) from (by repeat (first | exact Below.refl _ _ | refine Below.drew ?_ | refine Below.alloc ?_ (by first | exact Nat.le_refl _ | (simp; done) | (simp; omega) | omega) _ | refine Below.more ?_ (by first | exact Nat.le_refl _ | (simp; done) | (simp; omega) | omega) _ _ | refine Below.setCell ?_ (by first | exact Nat.le_refl _ | (simp; done) | (simp; omega) | omega) _ | assumption)))
      have hgx := Lib.hid (show (more ((more W X1 0).alloc (.cells ⟨[.int .i64 (PT 0).f0, .int .i64 (PT 0).f1, .int .i64 (PT 0).f2]⟩ 27)) X2 d1).heap[W.heap.size + X1.size]? = some (.cells ⟨[.int .i64 (PT 0).f0, .int .i64 (PT 0).f1, .int .i64 (PT 0).f2]⟩ 27 (0, 0)) by rw [heap_more _ (by simp)]; exact heap_at_new (by simp))
      generalize more ((more W X1 0).alloc (.cells ⟨[.int .i64 (PT 0).f0, .int .i64 (PT 0).f1, .int .i64 (PT 0).f2]⟩ 27)) X2 d1 = Wx at *
      have hvx := Boxed.below (show Boxed W _ _ v' from HV.out) hWx.out
      have hNx := Boxed.below (show Boxed W _ _ _ from HN.out) hWx.out
      have hRx := Boxed.below (Boxed.below (show Boxed w1 _ _ _ from HR.out) HB.out) hWx.out
      have hrx := own_kept HROW.out hWx.out
      have hBx := HB.out.trans (hWx.out.mono HB.out.size)
      have g0 : Wx.cell? ⟨W.heap.size + X1.size, 0, none⟩ = some (.int .i64 (PT 0).f0) := by rw [cell_of_row Wx _ 0 _ _ (0, 0) hgx.out]; rfl
      have g1 : Wx.cell? ⟨W.heap.size + X1.size, 1, none⟩ = some (.int .i64 (PT 0).f1) := by rw [cell_of_row Wx _ 1 _ _ (0, 0) hgx.out]; rfl
      have g2 : Wx.cell? ⟨W.heap.size + X1.size, 2, none⟩ = some (.int .i64 (PT 0).f2) := by rw [cell_of_row Wx _ 2 _ _ (0, 0) hgx.out]; rfl
      have hc := hvx.cell
      have hf := hvx.frozen
      have hcR := hRx.cell
      have hfR := hRx.frozen
      have HVX := Lib.hid hvx
      have HNX := Lib.hid hNx
      have HRX := Lib.hid hRx
      have HROX := Lib.hid hrx
      have HBX := Lib.hid hBx
      clear hvx hNx hRx hrx hBx
      cases ok
      · gi_wp2
        rw [Boxed.same (show Boxed Wx _ _ _ from HRX.out)]
        exact ⟨others_of_below hWx.out, ⟨rfl, HNO.out (by simp)⟩, HBX.out⟩
      · have hnr := Lib.hid (Boxed.not_row HNX.out (show 3 ≠ 27 by decide) HROX.out)
        gi_wp2_with (gi_at_builtin; refine wpListIn_append_vec rfl _ _ rfl w1.heap.size _ pre.length _ rfl (HROX.out.alloc _) _ (PT 0) rfl (heap_at_new rfl) (by omega) (by have := HBX.out.size; simp; omega) ?_; intro v2 w2 hown2 hgrow2; obtain ⟨g2', cap2, rfl⟩ := ownsRow_succ hown2; have HH := Lib.hid (Boxed.appended HVX.out (by decide) HROX.out HBX.out.size hle9 hown2 hgrow2); have HG2 := Lib.hid hgrow2; have hc1 := HH.out.1.cell; have hf1 := HH.out.1.frozen; clear hown2 hgrow2)
        obtain ⟨hv1, hv2, hr2, hk2, hb2⟩ := HH.out
        have hN2 := Boxed.other ((HNX.out.alloc _).kept HG2.out hnr.out) HNE.out (.slice (some ⟨g2', 0, none⟩) (pre.length + 1) cap2)
        refine ⟨(others_of_below hWx.out).trans hk2, KeepB.boxed (show Boxed W _ _ _ from HN.out) hN2, ⟨⟨⟨_, hv2, ?_, HOKN.out (by simp)⟩, hN2⟩, HBX.out.trans hb2⟩⟩
        rw [ptsL_snoc, List.length_append]
        exact hr2
    · obtain ⟨ex, ey, ez, HPt⟩ := HF.out.h1
      have HP := Lib.hid HPt
      have HNO := Lib.hid (HF.out.no 1 (by omega))
      have HOKN := Lib.hid (show OK 1 = true → ∀ x ∈ pre ++ [(⟨1, hk4⟩ : Fin (2 * 2))], OK x.1 = true from fun h x hx => by
        rcases List.mem_append.1 hx with h1 | h1
        · exact HOKP.out x h1
        · obtain rfl : x = ⟨1, hk4⟩ := by simpa using h1
          exact h)
      clear HPt HF
      generalize OK 1 = ok at HNO HOKN HP
      gi_wp2
      refine region_box_in 16 27 [.int .i64 0, .int .i64 0, .int .i64 0] [.int .i64 (PT 1).f0, .int .i64 (PT 1).f1, .int .i64 (PT 1).f2] (by kernel_rfl) (by kernel_rfl) (by kernel_rfl) ?_
      simp only [List.take_succ_cons, List.take_zero, List.drop_succ_cons, List.drop_zero]
      repeat (refine headS_step (fun K hK => ?_); go_simp; refine hK _ ?_; clear hK K)
      (refine headS_step (fun K hK => ?_); go_simp; refine ⟨_, fun zt => calls_stays (HP.out.ev _), hK _ ?_⟩; clear hK K)
      repeat (refine headS_step (fun K hK => ?_); go_simp; refine hK _ ?_; clear hK K)
      (refine headS_step (fun K hK => ?_); go_simp; refine ⟨_, fun zt => calls_stays (HP.out.pr _), hK _ ?_⟩; clear hK K)
      repeat (refine headS_step (fun K hK => ?_); go_simp; refine hK _ ?_; clear hK K)
      refine headS_nil ?_
      refine tail_box (by go_simp) (fun X d => by go_simp) (fun b => by go_simp) (fun b w hb => by go_simp) (fun b => ?_)
      refine tail_quiet (v := .bool ok) (by go_simp) (fun w => by go_simp) ?_
      refine tail_done (fun X1 X2 d1 hb => ?_)
      subst hb
      simp only [onlyN, Act.put, List.setIfInBounds_toArray, List.set_cons_zero, List.set_cons_succ]
      have hWx := Lib.hid (show Below W.heap.size W (more ((more W X1 0).alloc (.cells ⟨[.int .i64 (PT 1).f0, .int .i64 (PT 1).f1, .int .i64 (PT 1).f2]⟩ 27)) X2 d1) from (by repeat (first | exact Below.refl _ _ | refine Below.drew ?_ | refine Below.alloc ?_ (by first | exact Nat.le_refl _ | (simp; done) | (simp; omega) | omega) _ | refine Below.more ?_ (by first | exact Nat.le_refl _ | (simp; done) | (simp; omega) | omega) _ _ | refine Below.setCell ?_ (by first | exact Nat.le_refl _ | (simp; done) | (simp; omega) | omega) _ | assumption)))
      have hgx := Lib.hid (show (more ((more W X1 0).alloc (.cells ⟨[.int .i64 (PT 1).f0, .int .i64 (PT 1).f1, .int .i64 (PT 1).f2]⟩ 27)) X2 d1).heap[W.heap.size + X1.size]? = some (.cells ⟨[.int .i64 (PT 1).f0, .int .i64 (PT 1).f1, .int .i64 (PT 1).f2]⟩ 27 (0, 0)) by rw [heap_more _ (by simp)]; exact heap_at_new (by simp))
      generalize more ((more W X1 0).alloc (.cells ⟨[.int .i64 (PT 1).f0, .int .i64 (PT 1).f1, .int .i64 (PT 1).f2]⟩ 27)) X2 d1 = Wx at *
      have hvx := Boxed.below (show Boxed W _ _ v' from HV.out) hWx.out
      have hNx := Boxed.below (show Boxed W _ _ _ from HN.out) hWx.out
      have hRx := Boxed.below (Boxed.below (show Boxed w1 _ _ _ from HR.out) HB.out) hWx.out
      have hrx := own_kept HROW.out hWx.out
      have hBx := HB.out.trans (hWx.out.mono HB.out.size)
      have g0 : Wx.cell? ⟨W.heap.size + X1.size, 0, none⟩ = some (.int .i64 (PT 1).f0) := by rw [cell_of_row Wx _ 0 _ _ (0, 0) hgx.out]; rfl
      have g1 : Wx.cell? ⟨W.heap.size + X1.size, 1, none⟩ = some (.int .i64 (PT 1).f1) := by rw [cell_of_row Wx _ 1 _ _ (0, 0) hgx.out]; rfl
      have g2 : Wx.cell? ⟨W.heap.size + X1.size, 2, none⟩ = some (.int .i64 (PT 1).f2) := by rw [cell_of_row Wx _ 2 _ _ (0, 0) hgx.out]; rfl
      have hc := hvx.cell
      have hf := hvx.frozen
      have hcR := hRx.cell
      have hfR := hRx.frozen
      have HVX := Lib.hid hvx
      have HNX := Lib.hid hNx
      have HRX := Lib.hid hRx
      have HROX := Lib.hid hrx
      have HBX := Lib.hid hBx
      clear hvx hNx hRx hrx hBx
      cases ok
      · gi_wp2
        rw [Boxed.same (show Boxed Wx _ _ _ from HRX.out)]
        exact ⟨others_of_below hWx.out, ⟨rfl, HNO.out (by simp)⟩, HBX.out⟩
      · have hnr := Lib.hid (Boxed.not_row HNX.out (show 3 ≠ 27 by decide) HROX.out)
        gi_wp2_with (gi_at_builtin; refine wpListIn_append_vec rfl _ _ rfl w1.heap.size _ pre.length _ rfl (HROX.out.alloc _) _ (PT 1) rfl (heap_at_new rfl) (by omega) (by have := HBX.out.size; simp; omega) ?_; intro v2 w2 hown2 hgrow2; obtain ⟨g2', cap2, rfl⟩ := ownsRow_succ hown2; have HH := Lib.hid (Boxed.appended HVX.out (by decide) HROX.out HBX.out.size hle9 hown2 hgrow2); have HG2 := Lib.hid hgrow2; have hc1 := HH.out.1.cell; have hf1 := HH.out.1.frozen; clear hown2 hgrow2)
        obtain ⟨hv1, hv2, hr2, hk2, hb2⟩ := HH.out
        have hN2 := Boxed.other ((HNX.out.alloc _).kept HG2.out hnr.out) HNE.out (.slice (some ⟨g2', 0, none⟩) (pre.length + 1) cap2)
        refine ⟨(others_of_below hWx.out).trans hk2, KeepB.boxed (show Boxed W _ _ _ from HN.out) hN2, ⟨⟨⟨_, hv2, ?_, HOKN.out (by simp)⟩, hN2⟩, HBX.out.trans hb2⟩⟩
        rw [ptsL_snoc, List.length_append]
        exact hr2
    · obtain ⟨ex, ey, ez, HPt⟩ := HF.out.h2
      have HP := Lib.hid HPt
      have HNO := Lib.hid (HF.out.no 2 (by omega))
      have HOKN := Lib.hid (show OK 2 = true → ∀ x ∈ pre ++ [(⟨2, hk4⟩ : Fin (2 * 2))], OK x.1 = true from fun h x hx => by
        rcases List.mem_append.1 hx with h1 | h1
        · exact HOKP.out x h1
        · obtain rfl : x = ⟨2, hk4⟩ := by simpa using h1
          exact h)
      clear HPt HF
      generalize OK 2 = ok at HNO HOKN HP
      gi_wp2
      refine region_box_in 16 27 [.int .i64 0, .int .i64 0, .int .i64 0] [.int .i64 (PT 2).f0, .int .i64 (PT 2).f1, .int .i64 (PT 2).f2] (by kernel_rfl) (by kernel_rfl) (by kernel_rfl) ?_
      simp only [List.take_succ_cons, List.take_zero, List.drop_succ_cons, List.drop_zero]
      repeat (refine headS_step (fun K hK => ?_); go_simp; refine hK _ ?_; clear hK K)
      (refine headS_step (fun K hK => ?_); go_simp; refine ⟨_, fun zt => calls_stays (HP.out.ev _), hK _ ?_⟩; clear hK K)
      repeat (refine headS_step (fun K hK => ?_); go_simp; refine hK _ ?_; clear hK K)
      (refine headS_step (fun K hK => ?_); go_simp; refine ⟨_, fun zt => calls_stays (HP.out.pr _), hK _ ?_⟩; clear hK K)
      repeat (refine headS_step (fun K hK => ?_); go_simp; refine hK _ ?_; clear hK K)
      refine headS_nil ?_
      refine tail_box (by go_simp) (fun X d => by go_simp) (fun b => by go_simp) (fun b w hb => by go_simp) (fun b => ?_)
      refine tail_quiet (v := .bool ok) (by go_simp) (fun w => by go_simp) ?_
      refine tail_done (fun X1 X2 d1 hb => ?_)
      subst hb
      simp only [onlyN, Act.put, List.setIfInBounds_toArray, List.set_cons_zero, List.set_cons_succ]
      have hWx := Lib.hid (show Below W.heap.size W (more ((more W X1 0).alloc (.cells ⟨[.int .i64 (PT 2).f0, .int .i64 (PT 2).f1, .int .i64 (PT 2).f2]⟩ 27)) X2 d1) from (by repeat (first | exact Below.refl _ _ | refine Below.drew ?_ | refine Below.alloc ?_ (by first | exact Nat.le_refl _ | (simp; done) | (simp; omega) | omega) _ | refine Below.more ?_ (by first | exact Nat.le_refl _ | (simp; done) | (simp; omega) | omega) _ _ | refine Below.setCell ?_ (by first | exact Nat.le_refl _ | (simp; done) | (simp; omega) | omega) _ | assumption)))
      have hgx := Lib.hid (show (more ((more W X1 0).alloc (.cells ⟨[.int .i64 (PT 2).f0, .int .i64 (PT 2).f1, .int .i64 (PT 2).f2]⟩ 27)) X2 d1).heap[W.heap.size + X1.size]? = some (.cells ⟨[.int .i64 (PT 2).f0, .int .i64 (PT 2).f1, .int .i64 (PT 2).f2]⟩ 27 (0, 0)) by rw [heap_more _ (by simp)]; exact heap_at_new (by simp))
      generalize more ((more W X1 0).alloc (.cells ⟨[.int .i64 (PT 2).f0, .int .i64 (PT 2).f1, .int .i64 (PT 2).f2]⟩ 27)) X2 d1 = Wx at *
      have hvx := Boxed.below (show Boxed W _ _ v' from HV.out) hWx.out
      have hNx := Boxed.below (show Boxed W _ _ _ from HN.out) hWx.out
      have hRx := Boxed.below (Boxed.below (show Boxed w1 _ _ _ from HR.out) HB.out) hWx.out
      have hrx := own_kept HROW.out hWx.out
      have hBx := HB.out.trans (hWx.out.mono HB.out.size)
      have g0 : Wx.cell? ⟨W.heap.size + X1.size, 0, none⟩ = some (.int .i64 (PT 2).f0) := by rw [cell_of_row Wx _ 0 _ _ (0, 0) hgx.out]; rfl
      have g1 : Wx.cell? ⟨W.heap.size + X1.size, 1, none⟩ = some (.int .i64 (PT 2).f1) := by rw [cell_of_row Wx _ 1 _ _ (0, 0) hgx.out]; rfl
      have g2 : Wx.cell? ⟨W.heap.size + X1.size, 2, none⟩ = some (.int .i64 (PT 2).f2) := by rw [cell_of_row Wx _ 2 _ _ (0, 0) hgx.out]; rfl
      have hc := hvx.cell
      have hf := hvx.frozen
      have hcR := hRx.cell
      have hfR := hRx.frozen
      have HVX := Lib.hid hvx
      have HNX := Lib.hid hNx
      have HRX := Lib.hid hRx
      have HROX := Lib.hid hrx
      have HBX := Lib.hid hBx
      clear hvx hNx hRx hrx hBx
      cases ok
      · gi_wp2
        rw [Boxed.same (show Boxed Wx _ _ _ from HRX.out)]
        exact ⟨others_of_below hWx.out, ⟨rfl, HNO.out (by simp)⟩, HBX.out⟩
      · have hnr := Lib.hid (Boxed.not_row HNX.out (show 3 ≠ 27 by decide) HROX.out)
        gi_wp2_with (gi_at_builtin; refine wpListIn_append_vec rfl _ _ rfl w1.heap.size _ pre.length _ rfl (HROX.out.alloc _) _ (PT 2) rfl (heap_at_new rfl) (by omega) (by have := HBX.out.size; simp; omega) ?_; intro v2 w2 hown2 hgrow2; obtain ⟨g2', cap2, rfl⟩ := ownsRow_succ hown2; have HH := Lib.hid (Boxed.appended HVX.out (by decide) HROX.out HBX.out.size hle9 hown2 hgrow2); have HG2 := Lib.hid hgrow2; have hc1 := HH.out.1.cell; have hf1 := HH.out.1.frozen; clear hown2 hgrow2)
        obtain ⟨hv1, hv2, hr2, hk2, hb2⟩ := HH.out
        have hN2 := Boxed.other ((HNX.out.alloc _).kept HG2.out hnr.out) HNE.out (.slice (some ⟨g2', 0, none⟩) (pre.length + 1) cap2)
        refine ⟨(others_of_below hWx.out).trans hk2, KeepB.boxed (show Boxed W _ _ _ from HN.out) hN2, ⟨⟨⟨_, hv2, ?_, HOKN.out (by simp)⟩, hN2⟩, HBX.out.trans hb2⟩⟩
        rw [ptsL_snoc, List.length_append]
        exact hr2
    · obtain ⟨ex, ey, ez, HPt⟩ := HF.out.h3
      have HP := Lib.hid HPt
      have HNO := Lib.hid (HF.out.no 3 (by omega))
      have HOKN := Lib.hid (show OK 3 = true → ∀ x ∈ pre ++ [(⟨3, hk4⟩ : Fin (2 * 2))], OK x.1 = true from fun h x hx => by
        rcases List.mem_append.1 hx with h1 | h1
        · exact HOKP.out x h1
        · obtain rfl : x = ⟨3, hk4⟩ := by simpa using h1
          exact h)
      clear HPt HF
      generalize OK 3 = ok at HNO HOKN HP
      gi_wp2
      refine region_box_in 16 27 [.int .i64 0, .int .i64 0, .int .i64 0] [.int .i64 (PT 3).f0, .int .i64 (PT 3).f1, .int .i64 (PT 3).f2] (by kernel_rfl) (by kernel_rfl) (by kernel_rfl) ?_
      simp only [List.take_succ_cons, List.take_zero, List.drop_succ_cons, List.drop_zero]
      repeat (refine headS_step (fun K hK => ?_); go_simp; refine hK _ ?_; clear hK K)
      (refine headS_step (fun K hK => ?_); go_simp; refine ⟨_, fun zt => calls_stays (HP.out.ev _), hK _ ?_⟩; clear hK K)
      repeat (refine headS_step (fun K hK => ?_); go_simp; refine hK _ ?_; clear hK K)
      (refine headS_step (fun K hK => ?_); go_simp; refine ⟨_, fun zt => calls_stays (HP.out.pr _), hK _ ?_⟩; clear hK K)
      repeat (refine headS_step (fun K hK => ?_); go_simp; refine hK _ ?_; clear hK K)
      refine headS_nil ?_
      refine tail_box (by go_simp) (fun X d => by go_simp) (fun b => by go_simp) (fun b w hb => by go_simp) (fun b => ?_)
      refine tail_quiet (v := .bool ok) (by go_simp) (fun w => by go_simp) ?_
      refine tail_done (fun X1 X2 d1 hb => ?_)
      subst hb
      simp only [onlyN, Act.put, List.setIfInBounds_toArray, List.set_cons_zero, List.set_cons_succ]
      have hWx := Lib.hid (show Below W.heap.size W (more ((more W X1 0).alloc (.cells ⟨[.int .i64 (PT 3).f0, .int .i64 (PT 3).f1, .int .i64 (PT 3).f2]⟩ 27)) X2 d1) from (by repeat (first | exact Below.refl _ _ | refine Below.drew ?_ | refine Below.alloc ?_ (by first | exact Nat.le_refl _ | (simp; done) | (simp; omega) | omega) _ | refine Below.more ?_ (by first | exact Nat.le_refl _ | (simp; done) | (simp; omega) | omega) _ _ | refine Below.setCell ?_ (by first | exact Nat.le_refl _ | (simp; done) | (simp; omega) | omega) _ | assumption)))
      have hgx := Lib.hid (show (more ((more W X1 0).alloc (.cells ⟨[.int .i64 (PT 3).f0, .int .i64 (PT 3).f1, .int .i64 (PT 3).f2]⟩ 27)) X2 d1).heap[W.heap.size + X1.size]? = some (.cells ⟨[.int .i64 (PT 3).f0, .int .i64 (PT 3).f1, .int .i64 (PT 3).f2]⟩ 27 (0, 0)) by rw [heap_more _ (by simp)]; exact heap_at_new (by simp))
      generalize more ((more W X1 0).alloc (.cells ⟨[.int .i64 (PT 3).f0, .int .i64 (PT 3).f1, .int .i64 (PT 3).f2]⟩ 27)) X2 d1 = Wx at *
      have hvx := Boxed.below (show Boxed W _ _ v' from HV.out) hWx.out
      have hNx := Boxed.below (show Boxed W _ _ _ from HN.out) hWx.out
      have hRx := Boxed.below (Boxed.below (show Boxed w1 _ _ _ from HR.out) HB.out) hWx.out
      have hrx := own_kept HROW.out hWx.out
      have hBx := HB.out.trans (hWx.out.mono HB.out.size)
      have g0 : Wx.cell? ⟨W.heap.size + X1.size, 0, none⟩ = some (.int .i64 (PT 3).f0) := by rw [cell_of_row Wx _ 0 _ _ (0, 0) hgx.out]; rfl
      have g1 : Wx.cell? ⟨W.heap.size + X1.size, 1, none⟩ = some (.int .i64 (PT 3).f1) := by rw [cell_of_row Wx _ 1 _ _ (0, 0) hgx.out]; rfl
      have g2 : Wx.cell? ⟨W.heap.size + X1.size, 2, none⟩ = some (.int .i64 (PT 3).f2) := by rw [cell_of_row Wx _ 2 _ _ (0, 0) hgx.out]; rfl
      have hc := hvx.cell
      have hf := hvx.frozen
      have hcR := hRx.cell
      have hfR := hRx.frozen
      have HVX := Lib.hid hvx
      have HNX := Lib.hid hNx
      have HRX := Lib.hid hRx
      have HROX := Lib.hid hrx
      have HBX := Lib.hid hBx
      clear hvx hNx hRx hrx hBx
      cases ok
      · gi_wp2
        rw [Boxed.same (show Boxed Wx _ _ _ from HRX.out)]
        exact ⟨others_of_below hWx.out, ⟨rfl, HNO.out (by simp)⟩, HBX.out⟩
      · have hnr := Lib.hid (Boxed.not_row HNX.out (show 3 ≠ 27 by decide) HROX.out)
        gi_wp2_with (gi_at_builtin; refine wpListIn_append_vec rfl _ _ rfl w1.heap.size _ pre.length _ rfl (HROX.out.alloc _) _ (PT 3) rfl (heap_at_new rfl) (by omega) (by have := HBX.out.size; simp; omega) ?_; intro v2 w2 hown2 hgrow2; obtain ⟨g2', cap2, rfl⟩ := ownsRow_succ hown2; have HH := Lib.hid (Boxed.appended HVX.out (by decide) HROX.out HBX.out.size hle9 hown2 hgrow2); have HG2 := Lib.hid hgrow2; have hc1 := HH.out.1.cell; have hf1 := HH.out.1.frozen; clear hown2 hgrow2)
        obtain ⟨hv1, hv2, hr2, hk2, hb2⟩ := HH.out
        have hN2 := Boxed.other ((HNX.out.alloc _).kept HG2.out hnr.out) HNE.out (.slice (some ⟨g2', 0, none⟩) (pre.length + 1) cap2)
        refine ⟨(others_of_below hWx.out).trans hk2, KeepB.boxed (show Boxed W _ _ _ from HN.out) hN2, ⟨⟨⟨_, hv2, ?_, HOKN.out (by simp)⟩, hN2⟩, HBX.out.trans hb2⟩⟩
        rw [ptsL_snoc, List.length_append]
        exact hr2
  case done =>
    rintro D ys W hD rfl ⟨⟨⟨v', hv, hrow, hok⟩, hN⟩, hB⟩ hK
    have HDD := Lib.hid (HF.out.ok (fun j hj => hok ⟨j, hj⟩ (List.mem_finRange _)))
    have hf : ptsL PT (List.finRange (2 * 2)) = [.int .i64 (PT 0).f0, .int .i64 (PT 0).f1, .int .i64 (PT 0).f2, .int .i64 (PT 1).f0, .int .i64 (PT 1).f1, .int .i64 (PT 1).f2, .int .i64 (PT 2).f0, .int .i64 (PT 2).f1, .int .i64 (PT 2).f2, .int .i64 (PT 3).f0, .int .i64 (PT 3).f1, .int .i64 (PT 3).f2] := rfl
    rw [hf, show (List.finRange (2 * 2)).length = 4 from rfl] at hrow
    obtain ⟨g, cap, rfl⟩ := own_form hrow (by decide)
    have hca := fun j hj => hrow.cellAt j hj
    have hg : g < W.heap.size := (hrow.lt g rfl).2
    have e0 : W.cell? ⟨g, 0, none⟩ = some (.int .i64 (PT 0).f0) := hca 0 (by decide)
    have e1 : W.cell? ⟨g, 1, none⟩ = some (.int .i64 (PT 0).f1) := hca 1 (by decide)
    have e2 : W.cell? ⟨g, 2, none⟩ = some (.int .i64 (PT 0).f2) := hca 2 (by decide)
    have e3 : W.cell? ⟨g, 3, none⟩ = some (.int .i64 (PT 1).f0) := hca 3 (by decide)
    have e4 : W.cell? ⟨g, 4, none⟩ = some (.int .i64 (PT 1).f1) := hca 4 (by decide)
    have e5 : W.cell? ⟨g, 5, none⟩ = some (.int .i64 (PT 1).f2) := hca 5 (by decide)
    have e6 : W.cell? ⟨g, 6, none⟩ = some (.int .i64 (PT 2).f0) := hca 6 (by decide)
    have e7 : W.cell? ⟨g, 7, none⟩ = some (.int .i64 (PT 2).f1) := hca 7 (by decide)
    have e8 : W.cell? ⟨g, 8, none⟩ = some (.int .i64 (PT 2).f2) := hca 8 (by decide)
    have e9 : W.cell? ⟨g, 9, none⟩ = some (.int .i64 (PT 3).f0) := hca 9 (by decide)
    have e10 : W.cell? ⟨g, 10, none⟩ = some (.int .i64 (PT 3).f1) := hca 10 (by decide)
    have e11 : W.cell? ⟨g, 11, none⟩ = some (.int .i64 (PT 3).f2) := hca 11 (by decide)
    have hcp := hv.cell
    have hbx := HS7.out.kept hB
    have eu := hbx.u
    have ev := hbx.v
    have en := hbx.n
    have hRx := Boxed.below HR.out hB
    have hcR := hRx.cell
    have hfR := hRx.frozen
    have HRX := Lib.hid hRx
    have HB := Lib.hid hB
    have HK := Lib.hid hK
    have hDw : w.heap.size ≤ D := by simp at hD; omega
    have k9 : w.heap.size + 1 + 1 + 1 + 1 + 1 + 1 + 1 + 1 + 1 < W.heap.size := hv.lt
    have k2 : w.heap.size + 1 + 1 < W.heap.size := by omega
    have k3 : w.heap.size + 1 + 1 + 1 < W.heap.size := by omega
    have k4 : w.heap.size + 1 + 1 + 1 + 1 < W.heap.size := by omega
    have k7 : w.heap.size + 1 + 1 + 1 + 1 + 1 + 1 + 1 < W.heap.size := by omega
    clear hca hrow hf HF hok hv hN hbx hRx hB hK hD hsz bZ bO bN hB0
    gi_wp2
    refine wpIn_wide.2 ?_
    refine region_fresh [0, 1, 2, 3, 4, 5, 6, 7, 8, 9, 10, 11] 4 (fun j => 12 + j) (fun j => 16 + j) (fun j => 20 + j) (fun j => 69 + 3 * j) 27 [.int .i64 0, .int .i64 0, .int .i64 0] (fun j => (PT j).cells) (fun j => .agg #[.int .i64 (PT j).f0, .int .i64 (PT j).f1, .int .i64 (PT j).f2]) (by kernel_rfl) (by kernel_rfl) (fun i j _ _ h e => by omega) (fun i j _ _ e => by omega) ?hA ?hS ?hH
    case hA =>
      intro j hj
      have hj' : j = 0 ∨ j = 1 ∨ j = 2 ∨ j = 3 := by omega
      rcases hj' with rfl | rfl | rfl | rfl <;> exact ⟨_, rfl, rfl, rfl, fun ρ w => by go_simp⟩
    case hS =>
      intro j hj
      have hj' : j = 0 ∨ j = 1 ∨ j = 2 ∨ j = 3 := by omega
      rcases hj' with rfl | rfl | rfl | rfl <;> exact ⟨_, rfl, rfl, rfl, fun ρ b w h1 h2 hb => by simp only [Nat.reduceMul, Nat.reduceAdd, Nat.add_zero, Nat.mul_zero] at h1 h2; go_simp⟩
    case hH =>
      repeat (refine headP_step rfl (fun K hK => ?_); go_simp; refine hK _ ?_; clear hK K)
      refine headP_nil ⟨?_, ?_, ?_⟩
      · intro j hj
        have hj' : j = 0 ∨ j = 1 ∨ j = 2 ∨ j = 3 := by omega
        rcases hj' with rfl | rfl | rfl | rfl <;> rfl
      · intro i hi
        simp only [Act.put, List.setIfInBounds_toArray, List.set_cons_zero, List.set_cons_succ, List.size_toArray, List.length_cons, List.length_nil]
        omega
      · intro β hβ Wy hWy
        obtain ⟨x0, hx0⟩ := Option.isSome_iff_exists.1 (hβ 0 (by decide))
        obtain ⟨x1, hx1⟩ := Option.isSome_iff_exists.1 (hβ 1 (by decide))
        obtain ⟨x2, hx2⟩ := Option.isSome_iff_exists.1 (hβ 2 (by decide))
        obtain ⟨x3, hx3⟩ := Option.isSome_iff_exists.1 (hβ 3 (by decide))
        obtain ⟨q1, q2, _⟩ := hWy
        have f0 : Wy.heap[x0]? = some (.cells ⟨(PT 0).cells⟩ 27 (0, 0)) := (q2 0 x0 hx0).2
        have f1 : Wy.heap[x1]? = some (.cells ⟨(PT 1).cells⟩ 27 (0, 0)) := (q2 1 x1 hx1).2
        have f2 : Wy.heap[x2]? = some (.cells ⟨(PT 2).cells⟩ 27 (0, 0)) := (q2 2 x2 hx2).2
        have f3 : Wy.heap[x3]? = some (.cells ⟨(PT 3).cells⟩ 27 (0, 0)) := (q2 3 x3 hx3).2
        have l0 : x0 < Wy.heap.size := (Array.getElem?_eq_some_iff.1 f0).1
        have g00 : Wy.cell? ⟨x0, 0, none⟩ = some (.int .i64 (PT 0).f0) := by rw [cell_of_row Wy _ 0 _ _ (0, 0) f0]; rfl
        have g01 : Wy.cell? ⟨x0, 1, none⟩ = some (.int .i64 (PT 0).f1) := by rw [cell_of_row Wy _ 1 _ _ (0, 0) f0]; rfl
        have g02 : Wy.cell? ⟨x0, 2, none⟩ = some (.int .i64 (PT 0).f2) := by rw [cell_of_row Wy _ 2 _ _ (0, 0) f0]; rfl
        have l1 : x1 < Wy.heap.size := (Array.getElem?_eq_some_iff.1 f1).1
        have g10 : Wy.cell? ⟨x1, 0, none⟩ = some (.int .i64 (PT 1).f0) := by rw [cell_of_row Wy _ 0 _ _ (0, 0) f1]; rfl
        have g11 : Wy.cell? ⟨x1, 1, none⟩ = some (.int .i64 (PT 1).f1) := by rw [cell_of_row Wy _ 1 _ _ (0, 0) f1]; rfl
        have g12 : Wy.cell? ⟨x1, 2, none⟩ = some (.int .i64 (PT 1).f2) := by rw [cell_of_row Wy _ 2 _ _ (0, 0) f1]; rfl
        have l2 : x2 < Wy.heap.size := (Array.getElem?_eq_some_iff.1 f2).1
        have g20 : Wy.cell? ⟨x2, 0, none⟩ = some (.int .i64 (PT 2).f0) := by rw [cell_of_row Wy _ 0 _ _ (0, 0) f2]; rfl
        have g21 : Wy.cell? ⟨x2, 1, none⟩ = some (.int .i64 (PT 2).f1) := by rw [cell_of_row Wy _ 1 _ _ (0, 0) f2]; rfl
        have g22 : Wy.cell? ⟨x2, 2, none⟩ = some (.int .i64 (PT 2).f2) := by rw [cell_of_row Wy _ 2 _ _ (0, 0) f2]; rfl
        have l3 : x3 < Wy.heap.size := (Array.getElem?_eq_some_iff.1 f3).1
        have g30 : Wy.cell? ⟨x3, 0, none⟩ = some (.int .i64 (PT 3).f0) := by rw [cell_of_row Wy _ 0 _ _ (0, 0) f3]; rfl
        have g31 : Wy.cell? ⟨x3, 1, none⟩ = some (.int .i64 (PT 3).f1) := by rw [cell_of_row Wy _ 1 _ _ (0, 0) f3]; rfl
        have g32 : Wy.cell? ⟨x3, 2, none⟩ = some (.int .i64 (PT 3).f2) := by rw [cell_of_row Wy _ 2 _ _ (0, 0) f3]; rfl
        replace eu := cell_below q1 eu
        replace ev := cell_below q1 ev
        replace en := cell_below q1 en
        have HRY := Lib.hid (Boxed.below (show Boxed W _ _ _ from HRX.out) q1)
        replace hcR := HRY.out.cell
        replace hfR := HRY.out.frozen
        have HKY := Lib.hid ((q1.block D (Array.getElem?_eq_some_iff.1 HK.out).1).trans HK.out)
        have HQ1 := Lib.hid q1
        have s1 := q1.size
        have j2 : w.heap.size + 1 + 1 < Wy.heap.size := by omega
        have j0 : w.heap.size ≤ W.heap.size := by omega
        have j3 : w.heap.size + 1 + 1 + 1 < Wy.heap.size := by omega
        have j4 : w.heap.size + 1 + 1 + 1 + 1 < Wy.heap.size := by omega
        have j7 : w.heap.size + 1 + 1 + 1 + 1 + 1 + 1 + 1 < Wy.heap.size := by omega
        simp only [putAll, hx0, hx1, hx2, hx3, Nat.reduceAdd, Nat.add_zero, Act.put, List.setIfInBounds_toArray, List.set_cons_zero, List.set_cons_succ]
        clear q1 q2 f0 f1 f2 f3 hx0 hx1 hx2 hx3 hβ e0 e1 e2 e3 e4 e5 e6 e7 e8 e9 e10 e11 hcp k2 k3 k4 k7 k9 HK HRX
        gi_wp2
        have HB2 := Lib.hid (Boxed.alloc (Boxed.set (.slice (some ⟨Wy.heap.size, 0, none⟩) 2 2) HRY.out) (.cells ⟨flat 12 2 (MicropolygonD.at [micOf (PT 0) (PT 1) (PT 2) u v n, micOf (PT 1) (PT 3) (PT 2) u v n])⟩ 45))
        have hko : KeepsOthers Wy ((Wy.setCell ⟨w.heap.size + 1 + 1 + 1 + 1 + 1 + 1 + 1, 0, none⟩ (.slice (some ⟨Wy.heap.size, 0, none⟩) 2 2)).alloc (.cells ⟨flat 12 2 (MicropolygonD.at [micOf (PT 0) (PT 1) (PT 2) u v n, micOf (PT 1) (PT 3) (PT 2) u v n])⟩ 45)) := (KeepsOthers.setCell _ _ _).trans (KeepsOthers.alloc _ _)
        have hK' := hko.same D _ HKY.out rfl
        refine ⟨by simp, .inl ⟨_, _, rfl, run_takeDeferred hK', ?_⟩⟩
        have hDy : D < Wy.heap.size := (Array.getElem?_eq_some_iff.1 HKY.out).1
        have hc5 := cell_kept HB2.out.cell (grownBy_putObj' _ D (.deferred none)) (fun r e => by cases e; exact ⟨_, hK', rfl⟩)
        have hDD := HDD.out
        have hle : w.heap.size ≤ Wy.heap.size := by omega
        refine ⟨.slice (some ⟨Wy.heap.size, 0, none⟩) 2 2, dice_results _ _ _ _ rfl hc5, ?_, .inr ⟨by rw [hDD]; rfl, Wy.heap.size, rfl, hle, ?_⟩⟩
        · refine Below.trans ?_ (belowK_b (w := w) (Nat.le_refl _) _ D _ _ hDw hK' rfl rfl)
          refine Below.alloc (Below.setCell (p := ⟨w.heap.size + 1 + 1 + 1 + 1 + 1 + 1 + 1, 0, none⟩) ((HB1.out.trans (HB.out.mono HB1.out.size)).trans (HQ1.out.mono j0)) (by show w.heap.size ≤ w.heap.size + 1 + 1 + 1 + 1 + 1 + 1 + 1; omega) _) (by simp; omega) _
        · rw [World.putObj_heap_other (by omega), heap_at_new (by simp), hDD]
          rfl
  case stop =>
    rintro D cd pre W hD _ ⟨⟨rfl, hdd⟩, hB⟩ hK
    have hcR := (Boxed.below HR.out hB).cell
    have hDw : w.heap.size ≤ D := by simp at hD; omega
    have hc5 := cell_kept hcR (grownBy_putObj' _ D (.deferred none)) (fun r e => by cases e; exact ⟨_, hK, rfl⟩)
    gi_wp2
    refine ⟨by simp, .inl ⟨_, _, rfl, run_takeDeferred hK, ?_⟩⟩
    refine ⟨.slice none 0 0, by simp [results, Try.results26, go_sem, hc5], ?_, .inl ⟨hdd, rfl⟩⟩
    exact (HB1.out.trans (hB.mono HB1.out.size)).trans (belowK_b (w := w) (Nat.le_refl _) W D _ _ hDw hK rfl rfl)
end Go.Proofs.Ytkdkdejgajcneaa
