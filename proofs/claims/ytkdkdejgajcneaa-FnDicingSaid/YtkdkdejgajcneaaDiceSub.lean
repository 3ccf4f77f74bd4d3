/- Dicing a part of a grid: the walk of impl.DiceSubPatch. -/
import Derived.Test.YtkdkdejgajcneaaDiceGrid
import Derived.Deep.RegionHeld3
namespace Go.Proofs.Ytkdkdejgajcneaa
open Go Go.RowKit Go.Shelf
attribute [local go_sem] Oper.semAt_some
set_option linter.unusedVariables false
theorem own_shape' {w : World} {base : Nat} {e : TypeId} {s : Nat} {v : Value} {n : Nat} {xs : List Value} (h : w.ownsRow base e s v n xs) : ∃ a cap, v = .slice a n cap := by
  rcases h.2 with ⟨rfl, rfl⟩ | ⟨g, cap, cur, rfl, _⟩
  · exact ⟨_, _, rfl⟩
  · exact ⟨_, _, rfl⟩
theorem heap_alloc_old' {W : World} {x y : Obj} {b : Nat} (h : W.heap[b]? = some y) : (W.alloc x).heap[b]? = some y := by
  rw [Below.block (Below.alloc (Below.refl _ _) (Nat.le_refl _) _) b (Array.getElem?_eq_some_iff.1 h).1]; exact h
theorem wp_append_cell {w : World} {o : Oper} {a : Act} {K : Act → World → Prop} {Q : Exit → Act → World → Prop} (s x : Operand)
    (ho : o.op = .call { callee := .builtin .append, args := #[s, x], argTypes := #[34, 34] })
    (base : Nat) (v r : Value) (L l : List MicropolygonD) (hs : a.eval s = v) (hx : a.eval x = r) (hown : w.ownsRow base 45 12 v L.length (micCells L)) (hr : CellR w l r) (hL : L.length ≤ 1000) (hbase : base ≤ w.heap.size)
    (h : ∀ v' w', w'.ownsRow base 45 12 v' (L ++ l).length (micCells (L ++ l)) → w.grownBy w' v.ownBlock → K (a.put o.dst v') w') : o.wp Try.prog a w K Q := by
  obtain ⟨v', w', h1, h2, h3⟩ := run_append_cell o.type hown hr hL hbase
  unfold Oper.wp execOp
  simp only [ho, resolve, invoke, builtin, Sem.run_bind, Sem.run_pure, Result.andThen_ok, List.map_toArray, List.map_cons, List.map_nil, hs, hx, h1]
  exact h v' w' h2 h3
/-- What the round reads, cell by cell. -/
@[reducible] def SubS (b e : Nat) (c : CamD) (p : PatD) (U V N n lx ly : Int) (k : Nat) (w' : World) : Prop :=
  w'.cell? ⟨b, 0, none⟩ = some (.int .i64 c.W) ∧ w'.cell? ⟨b, 1, none⟩ = some (.int .i64 c.H) ∧ w'.cell? ⟨b, 2, none⟩ = some (.int .i64 c.Z) ∧ w'.cell? ⟨b, 3, none⟩ = some (.int .i64 c.N) ∧ w'.cell? ⟨b, 4, none⟩ = some (.bool c.D) ∧ w'.cell? ⟨b, 5, none⟩ = some (.int .i64 c.L) ∧ w'.cell? ⟨b, 6, none⟩ = some (.int .i64 c.F) ∧ w'.cell? ⟨b + 1, 0, none⟩ = some (.int .i64 p.t0) ∧ w'.cell? ⟨b + 1, 1, none⟩ = some (.int .i64 p.t1) ∧ w'.cell? ⟨b + 1, 2, none⟩ = some (.int .i64 p.t2) ∧ w'.cell? ⟨b + 1, 3, none⟩ = some (.int .i64 p.t3) ∧ w'.cell? ⟨b + 1, 4, none⟩ = some (.int .i64 p.t4) ∧ w'.cell? ⟨b + 1, 5, none⟩ = some (.int .i64 p.t5) ∧ w'.cell? ⟨b + 1, 6, none⟩ = some (.int .i64 p.t6) ∧ w'.cell? ⟨b + 1, 7, none⟩ = some (.int .i64 p.t7) ∧ w'.cell? ⟨b + 1, 8, none⟩ = some (.int .i64 p.t8) ∧ w'.cell? ⟨b + 1, 9, none⟩ = some (.int .i64 p.t9) ∧ w'.cell? ⟨b + 1, 10, none⟩ = some (.int .i64 p.t10) ∧ w'.cell? ⟨b + 1, 11, none⟩ = some (.int .i64 p.t11) ∧ w'.cell? ⟨b + 1 + 1, 0, none⟩ = some (.int .i64 U) ∧ w'.cell? ⟨b + 1 + 1, 1, none⟩ = some (.int .i64 V) ∧ w'.cell? ⟨b + 1 + 1, 2, none⟩ = some (.int .i64 N) ∧ w'.cell? ⟨b + 1 + 1 + 1, 0, none⟩ = some (.int .i64 n) ∧ w'.cell? ⟨b + 1 + 1 + 1 + 1, 0, none⟩ = some (.int .i64 lx) ∧ w'.cell? ⟨b + 1 + 1 + 1 + 1 + 1, 0, none⟩ = some (.int .i64 ly) ∧ w'.cell? ⟨e + 1, 0, none⟩ = some (.int .i64 (k : Int))
/-- The parameters' boxes, block by block. -/
structure SixB (w : World) (b : Nat) (c : CamD) (p : PatD) (U V N n lx ly : Int) : Prop where
  cp : CPBox w b c p
  sub : w.heap[b + 1 + 1]? = some (.cells ⟨[.int .i64 U, .int .i64 V, .int .i64 N]⟩ 39 (0, 0))
  n : Boxed w (b + 1 + 1 + 1) 3 (.int .i64 n)
  lx : Boxed w (b + 1 + 1 + 1 + 1) 3 (.int .i64 lx)
  ly : Boxed w (b + 1 + 1 + 1 + 1 + 1) 3 (.int .i64 ly)
section
variable {w w' : World} {b e : Nat} {c : CamD} {p : PatD} {U V N n lx ly : Int} {k : Nat}
theorem SixB.subc (h : SixB w b c p U V N n lx ly) (j : Nat) : w.cell? ⟨b + 1 + 1, j, none⟩ = ([.int .i64 U, .int .i64 V, .int .i64 N] : List Value)[j]? := by
  rw [cell_of_row w _ j _ _ (0, 0) h.sub]; simp
theorem SixB.s (h : SixB w b c p U V N n lx ly) (hk : Boxed w (e + 1) 3 (.int .i64 (k : Int))) : SubS b e c p U V N n lx ly k w := ⟨h.cp.cc 0, h.cp.cc 1, h.cp.cc 2, h.cp.cc 3, h.cp.cc 4, h.cp.cc 5, h.cp.cc 6, h.cp.cp 0, h.cp.cp 1, h.cp.cp 2, h.cp.cp 3, h.cp.cp 4, h.cp.cp 5, h.cp.cp 6, h.cp.cp 7, h.cp.cp 8, h.cp.cp 9, h.cp.cp 10, h.cp.cp 11, h.subc 0, h.subc 1, h.subc 2, h.n.cell, h.lx.cell, h.ly.cell, hk.cell⟩
/-- Blocks that stay, stay. -/
theorem SixB.of (h : SixB w b c p U V N n lx ly) (hb : ∀ i cur t, w.heap[i]? = some (.cells cur t (0, 0)) → i ≤ b + 1 + 1 + 1 + 1 + 1 → t ≠ 45 → w'.heap[i]? = w.heap[i]?) : SixB w' b c p U V N n lx ly :=
  ⟨⟨(hb _ _ _ h.cp.cam (by omega) (by decide)).trans h.cp.cam, (hb _ _ _ h.cp.pat (by omega) (by decide)).trans h.cp.pat⟩, (hb _ _ _ h.sub (by omega) (by decide)).trans h.sub, (hb _ _ _ h.n (by omega) (by decide)).trans h.n, (hb _ _ _ h.lx (by omega) (by decide)).trans h.lx, (hb _ _ _ h.ly (by omega) (by decide)).trans h.ly⟩
theorem SixB.below (h : SixB w b c p U V N n lx ly) (hb : Below w.heap.size w w') : SixB w' b c p U V N n lx ly :=
  h.of fun i _ _ hi _ _ => hb.block i (Array.getElem?_eq_some_iff.1 hi).1
theorem SixB.grown (h : SixB w b c p U V N n lx ly) {base m : Nat} {v : Value} {xs : List Value} (ho : w.ownsRow base 45 12 v m xs) (hg : w.grownBy w' v.ownBlock) : SixB w' b c p U V N n lx ly :=
  h.of fun i cur e hi _ he => hg.block i (Array.getElem?_eq_some_iff.1 hi).1 (fun e2 => by
    rcases ho.2 with ⟨rfl, _⟩ | ⟨g, cap, cur', rfl, _, hgb, _⟩
    · simp [Value.ownBlock] at e2
    · obtain rfl : i = g := by simpa [Value.ownBlock] using e2
      rw [hgb] at hi
      simp at hi
      exact he hi.2.symm)
theorem SixB.set (h : SixB w b c p U V N n lx ly) (he : b + 1 + 1 + 1 + 1 + 1 < e) (u : Value) : SixB (w.setCell ⟨e, 0, none⟩ u) b c p U V N n lx ly :=
  h.of fun i _ _ _ hi _ => Below.heap_setCell _ _ _ _ (by show i ≠ e; omega)
theorem SixB.new (w : World) (c : CamD) (p : PatD) (U V N n lx ly : Int) : SixB ((((((w.alloc (.cells ⟨c.cells⟩ 24)).alloc (.cells ⟨p.cells⟩ 30)).alloc (.cells #[.int .i64 U, .int .i64 V, .int .i64 N] 39)).alloc (.cells #[.int .i64 n] 3)).alloc (.cells #[.int .i64 lx] 3)).alloc (.cells #[.int .i64 ly] 3)) w.heap.size c p U V N n lx ly := by
  have hs : ∀ x : Obj, ∀ W : World, ∀ b y, W.heap[b]? = some y → (W.alloc x).heap[b]? = some y := fun x W b y h => heap_alloc_old' h
  exact ⟨(CPBox.new w c p).kept (by repeat (first | exact Below.refl _ _ | refine Below.drew ?_ | refine Below.alloc ?_ (by first | exact Nat.le_refl _ | (simp; done) | (simp; omega) | omega) _ | refine Below.more ?_ (by first | exact Nat.le_refl _ | (simp; done) | (simp; omega) | omega) _ _ | refine Below.setCell ?_ (by first | exact Nat.le_refl _ | (simp; done) | (simp; omega) | omega) _ | assumption)), hs _ _ _ _ (hs _ _ _ _ (hs _ _ _ _ (heap_at_new (by simp)))), hs _ _ _ _ (hs _ _ _ _ (heap_at_new (by simp))), hs _ _ _ _ (heap_at_new (by simp)), heap_at_new (by simp)⟩
end
/-- The micropolygons of some cells of a part. -/
def gl (c : CamD) (p : PatD) (U V : Int) (k : Nat) (n lx ly : Int) (pre : List (Fin (k * k))) : List MicropolygonD := pre.flatMap fun x => dcD c p (U * (k : Int) + (x.1 : Int) % (k : Int)) (V * (k : Int) + (x.1 : Int) / (k : Int)) n lx ly
theorem gl_snoc (c : CamD) (p : PatD) (U V : Int) (k : Nat) (n lx ly : Int) (pre : List (Fin (k * k))) (x : Fin (k * k)) : gl c p U V k n lx ly (pre ++ [x]) = gl c p U V k n lx ly pre ++ dcD c p (U * (k : Int) + (x.1 : Int) % (k : Int)) (V * (k : Int) + (x.1 : Int) / (k : Int)) n lx ly := by simp [gl]
theorem gl_len (c : CamD) (p : PatD) (U V : Int) (k : Nat) (n lx ly : Int) (pre : List (Fin (k * k))) : (gl c p U V k n lx ly pre).length ≤ 2 * pre.length := by
  induction pre with
  | nil => simp [gl]
  | cons x xs ih =>
    have := dcD_len c p (U * (k : Int) + (x.1 : Int) % (k : Int)) (V * (k : Int) + (x.1 : Int) / (k : Int)) n lx ly
    simp only [gl, List.flatMap_cons, List.length_append, List.length_cons] at ih ⊢
    omega
theorem gl_all (c : CamD) (p : PatD) (U V : Int) (k : Nat) (n lx ly : Int) : gl c p U V k n lx ly (List.finRange (k * k)) = gridD c p U V k n lx ly (k * k) := by
  unfold gl gridD
  have e : List.range (k * k) = (List.finRange (k * k)).map (fun x => x.1) := by
    apply List.ext_getElem <;> simp
  rw [e, List.flatMap_map]
set_option maxRecDepth 100000 in
set_option maxHeartbeats 4000000 in
theorem impl_DiceSubPatch_no (c : CamD) (p : PatD) (U V N n lx ly : Int) (w : World) (hin : dsIn U V N n = false) :
    Calls Try.prog 20 #[c.val, p.val, subV U V N, .int .i64 n, .int .i64 lx, .int .i64 ly] w (Gives w 12 0 (MicropolygonD.at [])) := by
  cases h1 : subPOk U V N
  · go_enter Try.func20, Try.ntmps20
    go_wp2_with (go_at_call 60; refine (impl_IsValidSubPatch_c _ _ _ _).mono ?_; rw [h1]; rintro e wn ⟨rfl, hbn⟩; obtain ⟨X, nX, rfl⟩ := Below.ext hbn; clear hbn)
    go_ret
    exact Gives.nil (by repeat (first | exact Below.refl _ _ | refine Below.drew ?_ | refine Below.alloc ?_ (by first | exact Nat.le_refl _ | (simp; done) | (simp; omega) | omega) _ | refine Below.more ?_ (by first | exact Nat.le_refl _ | (simp; done) | (simp; omega) | omega) _ _ | refine Below.setCell ?_ (by first | exact Nat.le_refl _ | (simp; done) | (simp; omega) | omega) _ | assumption))
  · cases h2 : inB n 1 8
    · go_enter Try.func20, Try.ntmps20
      go_wp2_with (first | (go_at_call 60; refine (impl_IsValidSubPatch_c _ _ _ _).mono ?_; rw [h1]; rintro e wn ⟨rfl, hbn⟩; obtain ⟨X, nX, rfl⟩ := Below.ext hbn; clear hbn) | (go_at_call 62; refine (within_c _ _ _ _).mono ?_; rw [h2]; rintro e w' ⟨rfl, rfl⟩))
      go_ret
      exact Gives.nil (by repeat (first | exact Below.refl _ _ | refine Below.drew ?_ | refine Below.alloc ?_ (by first | exact Nat.le_refl _ | (simp; done) | (simp; omega) | omega) _ | refine Below.more ?_ (by first | exact Nat.le_refl _ | (simp; done) | (simp; omega) | omega) _ _ | refine Below.setCell ?_ (by first | exact Nat.le_refl _ | (simp; done) | (simp; omega) | omega) _ | assumption))
    · have hN : ¬ N = 0 := by
        have : pow2B N = true := by simp only [subPOk, Bool.and_eq_true] at h1; exact h1.1.1
        have := pow2_bd this
        omega
      have hr : ¬ n.tmod N = 0 := by simpa [dsIn, h1, h2] using hin
      go_enter Try.func20, Try.ntmps20
      go_wp2_with (first | (go_at_call 60; refine (impl_IsValidSubPatch_c _ _ _ _).mono ?_; rw [h1]; rintro e wn ⟨rfl, hbn⟩; obtain ⟨X, nX, rfl⟩ := Below.ext hbn; clear hbn) | (go_at_call 62; refine (within_c _ _ _ _).mono ?_; rw [h2]; rintro e w' ⟨rfl, rfl⟩))
      go_ret
      exact Gives.nil (by repeat (first | exact Below.refl _ _ | refine Below.drew ?_ | refine Below.alloc ?_ (by first | exact Nat.le_refl _ | (simp; done) | (simp; omega) | omega) _ | refine Below.more ?_ (by first | exact Nat.le_refl _ | (simp; done) | (simp; omega) | omega) _ _ | refine Below.setCell ?_ (by first | exact Nat.le_refl _ | (simp; done) | (simp; omega) | omega) _ | assumption))
set_option maxRecDepth 100000 in
set_option maxHeartbeats 8000000 in
theorem impl_DiceSubPatch_in (c : CamD) (p : PatD) (U V N n lx ly : Int) (w : World) (hin : dsIn U V N n = true) :
    Calls Try.prog 20 #[c.val, p.val, subV U V N, .int .i64 n, .int .i64 lx, .int .i64 ly] w (Gives w 12 (gridD c p U V (dsK N n) n lx ly (dsK N n * dsK N n)).length (MicropolygonD.at (gridD c p U V (dsK N n) n lx ly (dsK N n * dsK N n)))) := by
  obtain ⟨k1, k8, q1, r1, ⟨n1, n2⟩, N0, ⟨u1, u2⟩, v1, v2⟩ := dsF hin
  have hh := hin
  simp only [dsIn, Bool.and_eq_true] at hh
  obtain ⟨⟨o1, o2⟩, o3⟩ := hh
  clear hin o3
  generalize dsK N n = k at *
  have qk : IntKind.i64.wrap (k : Int) = (k : Int) := IntWalk.i64_in _ (by omega)
  have qU : IntKind.i64.wrap (U * (k : Int)) = U * (k : Int) := IntWalk.i64_in _ (by omega)
  have qV : IntKind.i64.wrap (V * (k : Int)) = V * (k : Int) := IntWalk.i64_in _ (by omega)
  have HLEN := Lib.hid (fun pre => gl_len c p U V k n lx ly pre)
  have hkk : k * k ≤ 64 := Nat.mul_le_mul k8 k8
  refine (callsIn_wide (n := 8)).1 ?_
  refine callsIn_of_wp_marks Try.func20 rfl trivial ?_ rfl
  simp only [Try.ntmps20, List.size_toArray, List.length_cons, List.length_nil, Nat.reduceAdd, Nat.reduceSub, Array.replicate_succ, Array.replicate_zero, List.push_toArray, List.append_toArray, List.nil_append, List.cons_append]
  gi_wp2_with (first | (refine ⟨trivial, ?_⟩; gi_at_call 62; refine (callsIn_wide.2 (within_c _ _ _ _)).mono ?_; rw [o2]; rintro e w' ⟨rfl, rfl⟩) | (refine ⟨trivial, ?_⟩; gi_at_call 60; refine (callsIn_wide.2 (impl_IsValidSubPatch_c _ _ _ _)).mono ?_; rw [o1]; rintro e w1 ⟨rfl, hb1⟩; have HS6 := Lib.hid (SixB.below (SixB.new w c p U V N n lx ly) hb1); have HB1 := Lib.hid (Below.trans (show Below w.heap.size w _ from (by repeat (first | exact Below.refl _ _ | refine Below.drew ?_ | refine Below.alloc ?_ (by first | exact Nat.le_refl _ | (simp; done) | (simp; omega) | omega) _ | refine Below.more ?_ (by first | exact Nat.le_refl _ | (simp; done) | (simp; omega) | omega) _ _ | refine Below.setCell ?_ (by first | exact Nat.le_refl _ | (simp; done) | (simp; omega) | omega) _ | assumption))) (hb1.mono (by simp; omega))); have en := HS6.out.n.cell; have eN : w1.cell? ⟨w.heap.size + 1 + 1, 2, none⟩ = some (.int .i64 N) := HS6.out.subc 2; have hE : w.heap.size + 1 + 1 + 1 + 1 + 1 < w1.heap.size := HS6.out.ly.lt; clear hb1) | (refine ⟨trivial, ?_⟩; gi_at_call 61; refine (callsIn_wide.2 (cells_c _ _)).mono ?_; rintro e w' ⟨rfl, rfl⟩))
  have hkc : ((w1.alloc (.cells #[] 45)).alloc (.cells #[.int .i64 (k : Int)] 3)).heap[w1.heap.size + 1]? = some (.cells #[.int .i64 (k : Int)] 3 (0, 0)) := heap_at_new (by simp)
  have bZ := World.ownsRow_made (e := 45) (size := 12) (base := w1.heap.size) w1 #[] 0 (by simp) (by decide) (by simp)
  have bK : Boxed ((w1.alloc (.cells #[] 45)).alloc (.cells #[.int .i64 (k : Int)] 3)) (w1.heap.size + 1) 3 (.int .i64 (k : Int)) := hkc
  have bO : Boxed (((w1.alloc (.cells #[] 45)).alloc (.cells #[.int .i64 (k : Int)] 3)).alloc (.cells #[.slice (some ⟨w1.heap.size, 0, none⟩) 0 0] 34)) (w1.heap.size + 1 + 1) 34 (.slice (some ⟨w1.heap.size, 0, none⟩) 0 0) := heap_at_new (by simp)
  have bN : Boxed ((((w1.alloc (.cells #[] 45)).alloc (.cells #[.int .i64 (k : Int)] 3)).alloc (.cells #[.slice (some ⟨w1.heap.size, 0, none⟩) 0 0] 34)).alloc (.cells #[.int .i64 (k : Int)] 3)) (w1.heap.size + 1 + 1 + 1) 3 (.int .i64 (k : Int)) := heap_at_new (by simp)
  have hB0 : Below w1.heap.size w1 ((((w1.alloc (.cells #[] 45)).alloc (.cells #[.int .i64 (k : Int)] 3)).alloc (.cells #[.slice (some ⟨w1.heap.size, 0, none⟩) 0 0] 34)).alloc (.cells #[.int .i64 (k : Int)] 3)) := (by repeat (first | exact Below.refl _ _ | refine Below.drew ?_ | refine Below.alloc ?_ (by first | exact Nat.le_refl _ | (simp; done) | (simp; omega) | omega) _ | refine Below.more ?_ (by first | exact Nat.le_refl _ | (simp; done) | (simp; omega) | omega) _ _ | refine Below.setCell ?_ (by first | exact Nat.le_refl _ | (simp; done) | (simp; omega) | omega) _ | assumption))
  refine wpIn_rangeFunc_ownF rfl (by omega) (gf := 98) (lb := #[.pointer (some ⟨w1.heap.size + 1 + 1 + 1, 0, none⟩)]) rfl trivial (enters_of Try.func98 (by kernel_rfl) rfl)
    (cells_stops 7 (by omega) (w1.heap.size + 1 + 1 + 1) k k1 k8 _ bN.cell) (fun h k => KeepB.t h k) (KeepB.b (by simp)) (Below.refl _ _) (fun _ => rfl)
    (fun pre W => (((∃ v', Boxed W (w1.heap.size + 1 + 1) 34 v' ∧ W.ownsRow w1.heap.size 45 12 v' (gl c p U V k n lx ly pre).length (micCells (gl c p U V k n lx ly pre)) ∧ True) ∧ Boxed W (w1.heap.size + 1) 3 (.int .i64 (k : Int))) ∧ Boxed W (w1.heap.size + 1 + 1 + 1) 3 (.int .i64 (k : Int))) ∧ Below w1.heap.size w1 W)
    (fun _ _ _ => False)
    (OwnFrom.and (OwnFrom.and (OwnFrom.and (Own.from (holdsRow_own w1.heap.size (w1.heap.size + 1 + 1) 34 45 12 (fun pre => (gl c p U V k n lx ly pre).length) (fun pre => micCells (gl c p U V k n lx ly pre)) (fun _ _ => True)) _) (Own.from (boxed_own _ _ _) _)) (Own.from (boxed_own _ _ _) _)) (ownFrom_below (Nat.le_refl _) (by simp; omega)))
    (fun _ _ _ _ _ hs _ _ => hs)
    ⟨⟨⟨⟨_, bO.alloc _, ((bZ.alloc _).alloc _).alloc _, trivial⟩, (bK.alloc _).alloc _⟩, bN⟩, hB0⟩ ?a1 ?assign ?body ?done ?stop
  case assign =>
    intro l x W K hK
    simp only [cellsE]
    gi_wp2
    exact hK
  case body =>
    rintro _l pre x W ⟨⟨⟨⟨v', hv, hrow, _⟩, hk⟩, hN⟩, hB⟩ hlt
    have hx8 : 0 ≤ (x.1 : Int) % (k : Int) ∧ (x.1 : Int) % (k : Int) < 8 := ⟨Int.emod_nonneg _ (by omega), Int.lt_of_lt_of_le (Int.emod_lt_of_pos _ (by omega)) (by omega)⟩
    have hd8 : 0 ≤ (x.1 : Int) / (k : Int) ∧ (x.1 : Int) / (k : Int) ≤ 64 := ⟨Int.ediv_nonneg (by omega) (by omega), Int.le_trans (Int.ediv_le_self _ (by omega)) (by have := x.2; omega)⟩
    have qu : IntKind.i64.wrap (U * (k : Int) + (x.1 : Int) % (k : Int)) = U * (k : Int) + (x.1 : Int) % (k : Int) := IntWalk.i64_in _ (by omega)
    have qv : IntKind.i64.wrap (V * (k : Int) + (x.1 : Int) / (k : Int)) = V * (k : Int) + (x.1 : Int) / (k : Int) := IntWalk.i64_in _ (by omega)
    have HC := Lib.hid (fun W => impl_DiceCell_q c p (U * (k : Int) + (x.1 : Int) % (k : Int)) (V * (k : Int) + (x.1 : Int) / (k : Int)) n lx ly W)
    have HGL := Lib.hid (gl_snoc c p U V k n lx ly pre x)
    have HLL := Lib.hid (show (gl c p U V k n lx ly pre).length ≤ 1000 by have := HLEN.out pre; omega)
    have hbd := Below.drew (Below.refl W.heap.size W)
    have h6d := (HS6.out.below hB).below hbd
    have hkd := Boxed.below hk hbd
    have hNd := Boxed.below hN hbd
    have hvd := Boxed.below hv hbd
    have hrd := own_kept hrow hbd
    have hcd := hvd.cell
    have HBD := Lib.hid (hB.trans (hbd.mono hB.size))
    have HN := Lib.hid hN
    clear hv hrow hk hN hB hbd bZ bK bO bN hB0 hkc hx8 hd8
    gi_wp2
    generalize dcD c p (U * (k : Int) + (x.1 : Int) % (k : Int)) (V * (k : Int) + (x.1 : Int) / (k : Int)) n lx ly = l at *
    refine region_held_in (S := SubS w.heap.size w1.heap.size c p U V N n lx ly k) (by kernel_rfl) (by kernel_rfl) (h6d.s hkd) (fun hHeld => ?_)
    (refine' wpAnyH_take (i := 1) (v := ?_) rfl (by kernel_rfl) (by kernel_rfl) (by kernel_rfl) (fun _ _ _ h => h) (Or.inl ⟨by rfl, ?_⟩) (by assumption) ?_; rotate_left; (focus (intro w hSw; (try dsimp only at hSw); go_simp; (try with_reducible rfl))); (try simp only [Act.put, List.setIfInBounds_toArray, List.set_cons_zero, List.set_cons_succ]))
    (refine' wpAnyH_take (i := 2) (v := ?_) rfl (by kernel_rfl) (by kernel_rfl) (by kernel_rfl) (fun _ _ _ h => h) (Or.inl ⟨by rfl, ?_⟩) (by assumption) ?_; rotate_left; (focus (intro w hSw; (try dsimp only at hSw); go_simp; (try with_reducible rfl))); (try simp only [Act.put, List.setIfInBounds_toArray, List.set_cons_zero, List.set_cons_succ]))
    (refine' wpAnyH_take (i := 3) (v := ?_) rfl (by kernel_rfl) (by kernel_rfl) (by kernel_rfl) (fun _ _ _ h => h) (Or.inl ⟨by rfl, ?_⟩) (by assumption) ?_; rotate_left; (focus (intro w hSw; (try dsimp only at hSw); go_simp; (try with_reducible rfl))); (try simp only [Act.put, List.setIfInBounds_toArray, List.set_cons_zero, List.set_cons_succ]))
    (refine' wpAnyH_take (i := 4) (v := ?_) rfl (by kernel_rfl) (by kernel_rfl) (by kernel_rfl) (fun _ _ _ h => h) (Or.inl ⟨by rfl, ?_⟩) (by assumption) ?_; rotate_left; (focus (intro w hSw; (try dsimp only at hSw); go_simp; (try with_reducible rfl))); (try simp only [Act.put, List.setIfInBounds_toArray, List.set_cons_zero, List.set_cons_succ]))
    (refine' wpAnyH_take (i := 5) (v := ?_) rfl (by kernel_rfl) (by kernel_rfl) (by kernel_rfl) (fun _ _ _ h => h) (Or.inl ⟨by rfl, ?_⟩) (by assumption) ?_; rotate_left; (focus (intro w hSw; (try dsimp only at hSw); go_simp; (try with_reducible rfl))); (try simp only [Act.put, List.setIfInBounds_toArray, List.set_cons_zero, List.set_cons_succ]))
    (refine' wpAnyH_take (i := 6) (v := ?_) rfl (by kernel_rfl) (by kernel_rfl) (by kernel_rfl) (fun _ _ _ h => h) (Or.inl ⟨by rfl, ?_⟩) (by assumption) ?_; rotate_left; (focus (intro w hSw; (try dsimp only at hSw); go_simp; (try with_reducible rfl))); (try simp only [Act.put, List.setIfInBounds_toArray, List.set_cons_zero, List.set_cons_succ]))
    (refine' wpAnyH_take (i := 7) (v := ?_) rfl (by kernel_rfl) (by kernel_rfl) (by kernel_rfl) (fun _ _ _ h => h) (Or.inl ⟨by rfl, ?_⟩) (by assumption) ?_; rotate_left; (focus (intro w hSw; (try dsimp only at hSw); go_simp; (try with_reducible rfl))); (try simp only [Act.put, List.setIfInBounds_toArray, List.set_cons_zero, List.set_cons_succ]))
    (refine' wpAnyH_take (i := 8) (v := ?_) rfl (by kernel_rfl) (by kernel_rfl) (by kernel_rfl) (fun _ _ _ h => h) (Or.inl ⟨by rfl, ?_⟩) (by assumption) ?_; rotate_left; (focus (intro w hSw; (try dsimp only at hSw); go_simp; (try with_reducible rfl))); (try simp only [Act.put, List.setIfInBounds_toArray, List.set_cons_zero, List.set_cons_succ]))
    (refine' wpAnyH_take (i := 9) (v := ?_) rfl (by kernel_rfl) (by kernel_rfl) (by kernel_rfl) (fun _ _ _ h => h) (Or.inl ⟨by rfl, ?_⟩) (by assumption) ?_; rotate_left; (focus (intro w hSw; (try dsimp only at hSw); go_simp; (try with_reducible rfl))); (try simp only [Act.put, List.setIfInBounds_toArray, List.set_cons_zero, List.set_cons_succ]))
    (refine' wpAnyH_take (i := 10) (v := ?_) rfl (by kernel_rfl) (by kernel_rfl) (by kernel_rfl) (fun _ _ _ h => h) (Or.inl ⟨by rfl, ?_⟩) (by assumption) ?_; rotate_left; (focus (intro w hSw; (try dsimp only at hSw); go_simp; (try with_reducible rfl))); (try simp only [Act.put, List.setIfInBounds_toArray, List.set_cons_zero, List.set_cons_succ]))
    (refine' wpAnyH_take (i := 11) (v := ?_) rfl (by kernel_rfl) (by kernel_rfl) (by kernel_rfl) (fun _ _ _ h => h) (Or.inl ⟨by rfl, ?_⟩) (by assumption) ?_; rotate_left; (focus (intro w hSw; (try dsimp only at hSw); go_simp; (try with_reducible rfl))); (try simp only [Act.put, List.setIfInBounds_toArray, List.set_cons_zero, List.set_cons_succ]))
    (refine' wpAnyH_take (i := 12) (v := ?_) rfl (by kernel_rfl) (by kernel_rfl) (by kernel_rfl) (fun _ _ _ h => h) (Or.inl ⟨by rfl, ?_⟩) (by assumption) ?_; rotate_left; (focus (intro w hSw; (try dsimp only at hSw); go_simp; (try with_reducible rfl))); (try simp only [Act.put, List.setIfInBounds_toArray, List.set_cons_zero, List.set_cons_succ]))
    (refine' wpAnyH_take (i := 13) (v := ?_) rfl (by kernel_rfl) (by kernel_rfl) (by kernel_rfl) (fun _ _ _ h => h) (Or.inl ⟨by rfl, ?_⟩) (by assumption) ?_; rotate_left; (focus (intro w hSw; (try dsimp only at hSw); go_simp; (try with_reducible rfl))); (try simp only [Act.put, List.setIfInBounds_toArray, List.set_cons_zero, List.set_cons_succ]))
    (refine' wpAnyH_take (i := 14) (v := ?_) rfl (by kernel_rfl) (by kernel_rfl) (by kernel_rfl) (fun _ _ _ h => h) (Or.inl ⟨by rfl, ?_⟩) (by assumption) ?_; rotate_left; (focus (intro w hSw; (try dsimp only at hSw); go_simp; (try with_reducible rfl))); (try simp only [Act.put, List.setIfInBounds_toArray, List.set_cons_zero, List.set_cons_succ]))
    (refine' wpAnyH_take (i := 15) (v := ?_) rfl (by kernel_rfl) (by kernel_rfl) (by kernel_rfl) (fun _ _ _ h => h) (Or.inl ⟨by rfl, ?_⟩) (by assumption) ?_; rotate_left; (focus (intro w hSw; (try dsimp only at hSw); go_simp; (try with_reducible rfl))); (try simp only [Act.put, List.setIfInBounds_toArray, List.set_cons_zero, List.set_cons_succ]))
    (refine' wpAnyH_take (i := 16) (v := ?_) rfl (by kernel_rfl) (by kernel_rfl) (by kernel_rfl) (fun _ _ _ h => h) (Or.inl ⟨by rfl, ?_⟩) (by assumption) ?_; rotate_left; (focus (intro w hSw; (try dsimp only at hSw); go_simp; (try with_reducible rfl))); (try simp only [Act.put, List.setIfInBounds_toArray, List.set_cons_zero, List.set_cons_succ]))
    (refine' wpAnyH_take (i := 17) (v := ?_) rfl (by kernel_rfl) (by kernel_rfl) (by kernel_rfl) (fun _ _ _ h => h) (Or.inl ⟨by rfl, ?_⟩) (by assumption) ?_; rotate_left; (focus (intro w hSw; (try dsimp only at hSw); go_simp; (try with_reducible rfl))); (try simp only [Act.put, List.setIfInBounds_toArray, List.set_cons_zero, List.set_cons_succ]))
    refine wpAnyH_ready (rs := [0, 18]) (by kernel_rfl) (by simp) ?_
    refine AllReadyH.cons rfl (fun K hK => ?_) (AllReadyH.cons rfl (fun K hK => ?_) AllReadyH.nil)
    · go_simp
      (refine hK.out _ _ (h6d.s hkd) (fun hHeld => ?_); clear hK K; (try simp only [Act.put, List.setIfInBounds_toArray, List.set_cons_zero, List.set_cons_succ]))
      (refine wpAnyH_ready (rs := [18]) (by kernel_rfl) (by simp) ?_; refine AllReadyH.cons rfl (fun K hK => ?_) AllReadyH.nil; go_simp)
      refine (HC.out _).mono ?_
      rintro e wq hq
      obtain ⟨r, rfl, hrr, hb⟩ := hq.r
      clear hq
      have h6q := h6d.below hb
      have hkq := Boxed.below hkd hb
      have hNq := Boxed.below hNd hb
      have hvq := Boxed.below hvd hb
      have hrq := own_kept hrd hb
      have hcq := hvq.cell
      (refine hK.out _ _ (h6q.s hkq) (fun hHeld => ?_); clear hK K; (try simp only [Act.put, List.setIfInBounds_toArray, List.set_cons_zero, List.set_cons_succ]))
      refine wpAnyH_ready (rs := [19]) (by kernel_rfl) (by simp) ?_
      refine AllReadyH.cons rfl (fun K hK => ?_) AllReadyH.nil
      rw [if_pos (by rfl)]
      refine wp_append_cell _ _ rfl w1.heap.size v' r (gl c p U V k n lx ly pre) l rfl rfl hrq hrr HLL.out (Nat.le_trans HBD.out.size hb.size) ?_
      intro v2 w2 hown2 hg2
      have h62 := h6q.grown hrq hg2
      have hk2 := hkq.kept hg2 (Boxed.not_row hkq (show 3 ≠ 45 by decide) hrq)
      have hN2 := hNq.kept hg2 (Boxed.not_row hNq (show 3 ≠ 45 by decide) hrq)
      have hv2 := hvq.kept hg2 (Boxed.not_row hvq (show 34 ≠ 45 by decide) hrq)
      have HKO := Lib.hid (KeepsOthers.of_grownBy hg2 (fun j o ej hj => by
        rcases hrq.2 with ⟨rfl, _⟩ | ⟨g, cap, cur, rfl, _, hgb, _⟩
        · simp [Value.ownBlock] at ej
        · obtain rfl : g = j := by simpa [Value.ownBlock] using ej
          rw [hgb] at hj; cases hj; rfl))
      have HBG := Lib.hid (Below.grown (show Below w1.heap.size w1 wq from HBD.out.trans (hb.mono HBD.out.size)) hg2 (Nat.le_trans HBD.out.size hb.size) (fun j hj => (hrq.lt j hj).1))
      obtain ⟨a2, cap2, rfl⟩ := own_shape' hown2
      have hc2 := hv2.cell
      have hf2 := hv2.frozen
      have HOWN2 := Lib.hid hown2
      have H62 := Lib.hid h62
      have HK2 := Lib.hid hk2
      have HN2 := Lib.hid hN2
      have HV2 := Lib.hid hv2
      have HBB := Lib.hid hb
      clear hown2 hg2 h62 hk2 hN2 hv2 h6q hkq hNq hvq hrq hcq
      (refine hK.out _ _ (H62.out.s HK2.out) (fun hHeld => ?_); clear hK K; (try simp only [Act.put, List.setIfInBounds_toArray, List.set_cons_zero, List.set_cons_succ]))
      (refine wpAnyH_ready (rs := [20]) (by kernel_rfl) (by simp) ?_; refine AllReadyH.cons rfl (fun K hK => ?_) AllReadyH.nil; go_simp)
      (refine hK.out _ _ ((H62.out.set (by omega) _).s (Boxed.other HK2.out (by omega) _)) (fun hHeld => ?_); clear hK K; (try simp only [Act.put, List.setIfInBounds_toArray, List.set_cons_zero, List.set_cons_succ]))
      refine wpAnyH_done (by kernel_rfl) ?_ _
      simp only [onlyN]
      have hof := (HV2.out.not_row (show 34 ≠ 45 by decide) HOWN2.out).symm
      refine ⟨((KeepsOthers.drew W).trans (others_of_below HBB.out)).trans (HKO.out.trans (KeepsOthers.setCell _ _ _)), KeepB.boxed HN.out (Boxed.other HN2.out (by omega) _), ⟨⟨⟨_, Boxed.set _ HV2.out, ?_, trivial⟩, Boxed.other HK2.out (by omega) _⟩, Boxed.other HN2.out (by omega) _⟩, ?_⟩
      · rw [HGL.out, List.length_append]
        have := HOWN2.out.kept (grownBy_setCell' w2 (w1.heap.size + 1 + 1) (.slice a2 ((gl c p U V k n lx ly pre).length + l.length) cap2)) (.inr hof)
        rw [List.length_append] at this
        exact this
      · exact Below.setCell (p := ⟨w1.heap.size + 1 + 1, 0, none⟩) HBG.out (by show w1.heap.size ≤ w1.heap.size + 1 + 1; omega) _
    · go_simp
      refine (HC.out _).mono ?_
      rintro e wq hq
      obtain ⟨r, rfl, hrr, hb⟩ := hq.r
      clear hq
      have h6q := h6d.below hb
      have hkq := Boxed.below hkd hb
      have hNq := Boxed.below hNd hb
      have hvq := Boxed.below hvd hb
      have hrq := own_kept hrd hb
      have hcq := hvq.cell
      (refine hK.out _ _ (h6q.s hkq) (fun hHeld => ?_); clear hK K; (try simp only [Act.put, List.setIfInBounds_toArray, List.set_cons_zero, List.set_cons_succ]))
      (refine wpAnyH_ready (rs := [0]) (by kernel_rfl) (by simp) ?_; refine AllReadyH.cons rfl (fun K hK => ?_) AllReadyH.nil; go_simp)
      (refine hK.out _ _ (h6q.s hkq) (fun hHeld => ?_); clear hK K; (try simp only [Act.put, List.setIfInBounds_toArray, List.set_cons_zero, List.set_cons_succ]))
      refine wpAnyH_ready (rs := [19]) (by kernel_rfl) (by simp) ?_
      refine AllReadyH.cons rfl (fun K hK => ?_) AllReadyH.nil
      rw [if_pos (by rfl)]
      refine wp_append_cell _ _ rfl w1.heap.size v' r (gl c p U V k n lx ly pre) l rfl rfl hrq hrr HLL.out (Nat.le_trans HBD.out.size hb.size) ?_
      intro v2 w2 hown2 hg2
      have h62 := h6q.grown hrq hg2
      have hk2 := hkq.kept hg2 (Boxed.not_row hkq (show 3 ≠ 45 by decide) hrq)
      have hN2 := hNq.kept hg2 (Boxed.not_row hNq (show 3 ≠ 45 by decide) hrq)
      have hv2 := hvq.kept hg2 (Boxed.not_row hvq (show 34 ≠ 45 by decide) hrq)
      have HKO := Lib.hid (KeepsOthers.of_grownBy hg2 (fun j o ej hj => by
        rcases hrq.2 with ⟨rfl, _⟩ | ⟨g, cap, cur, rfl, _, hgb, _⟩
        · simp [Value.ownBlock] at ej
        · obtain rfl : g = j := by simpa [Value.ownBlock] using ej
          rw [hgb] at hj; cases hj; rfl))
      have HBG := Lib.hid (Below.grown (show Below w1.heap.size w1 wq from HBD.out.trans (hb.mono HBD.out.size)) hg2 (Nat.le_trans HBD.out.size hb.size) (fun j hj => (hrq.lt j hj).1))
      obtain ⟨a2, cap2, rfl⟩ := own_shape' hown2
      have hc2 := hv2.cell
      have hf2 := hv2.frozen
      have HOWN2 := Lib.hid hown2
      have H62 := Lib.hid h62
      have HK2 := Lib.hid hk2
      have HN2 := Lib.hid hN2
      have HV2 := Lib.hid hv2
      have HBB := Lib.hid hb
      clear hown2 hg2 h62 hk2 hN2 hv2 h6q hkq hNq hvq hrq hcq
      (refine hK.out _ _ (H62.out.s HK2.out) (fun hHeld => ?_); clear hK K; (try simp only [Act.put, List.setIfInBounds_toArray, List.set_cons_zero, List.set_cons_succ]))
      (refine wpAnyH_ready (rs := [20]) (by kernel_rfl) (by simp) ?_; refine AllReadyH.cons rfl (fun K hK => ?_) AllReadyH.nil; go_simp)
      (refine hK.out _ _ ((H62.out.set (by omega) _).s (Boxed.other HK2.out (by omega) _)) (fun hHeld => ?_); clear hK K; (try simp only [Act.put, List.setIfInBounds_toArray, List.set_cons_zero, List.set_cons_succ]))
      refine wpAnyH_done (by kernel_rfl) ?_ _
      simp only [onlyN]
      have hof := (HV2.out.not_row (show 34 ≠ 45 by decide) HOWN2.out).symm
      refine ⟨((KeepsOthers.drew W).trans (others_of_below HBB.out)).trans (HKO.out.trans (KeepsOthers.setCell _ _ _)), KeepB.boxed HN.out (Boxed.other HN2.out (by omega) _), ⟨⟨⟨_, Boxed.set _ HV2.out, ?_, trivial⟩, Boxed.other HK2.out (by omega) _⟩, Boxed.other HN2.out (by omega) _⟩, ?_⟩
      · rw [HGL.out, List.length_append]
        have := HOWN2.out.kept (grownBy_setCell' w2 (w1.heap.size + 1 + 1) (.slice a2 ((gl c p U V k n lx ly pre).length + l.length) cap2)) (.inr hof)
        rw [List.length_append] at this
        exact this
      · exact Below.setCell (p := ⟨w1.heap.size + 1 + 1, 0, none⟩) HBG.out (by show w1.heap.size ≤ w1.heap.size + 1 + 1; omega) _
  case done =>
    rintro D ys W hD rfl ⟨⟨⟨⟨v', hv, hrow, _⟩, hk⟩, hN⟩, hB⟩ hK
    rw [gl_all] at hrow
    have hc := hv.cell
    have hDw : w.heap.size ≤ D := by simp at hD; omega
    have hle : w.heap.size ≤ w1.heap.size := by omega
    gi_wp2
    refine ⟨by simp, .inl ⟨_, _, rfl, run_takeDeferred hK, ?_⟩⟩
    exact ⟨_, results_tmp rfl _ _ _, gives_of_mic (ownsRow_putObj (ownsRow_base hrow hle) _ hK rfl) ((HB1.out.trans (hB.mono hle)).trans (belowK_b (w := w) (Nat.le_refl _) W D _ _ hDw hK rfl rfl))⟩
  case stop =>
    rintro D cd pre W _ _ h _
    exact h.elim
end Go.Proofs.Ytkdkdejgajcneaa
