/- The meshes that the laws draw. -/
import Derived.Test.YtpfmcobkfofbjaaDraw
import Derived.Test.YtpfmcobkfofbjaaMeshX
import Derived.Test.YtpfmcobkfofbjaaTopo
import Derived.Deep.AppendLies
import Derived.Deep.DeepCutAuto
import Derived.Test.YtpfmcobkfofbjaaStage3
namespace Go.Proofs.Ytpfmcobkfofbjaa
open Go Go.RowKit
/-- Small coordinates. -/
structure VSm (u : VecD) : Prop where
  a : -1000 ≤ u.f0 ∧ u.f0 ≤ 1000
  b : -1000 ≤ u.f1 ∧ u.f1 ≤ 1000
  c : -1000 ≤ u.f2 ∧ u.f2 ≤ 1000
/-- The mesh under way: the cursor, its box T (c0: what its first cell says), the result's box B2, the vertices' row. -/
structure DrJ (g B2 T base k : Nat) (L : List VecD) (vs c0 : Value) (w0 w : World) : Prop where
  cur : Cur w g
  box : w.heap[T]? = some (.cells #[c0, .slice none 0 0] 26 (0, 0))
  res : w.heap[B2]? = some (.cells #[.slice none 0 0, .slice none 0 0] 26 (0, 0))
  own : w.ownsRow base 29 3 vs k (vecVals L)
  chg : Chg g (g + 1) w0 w
  len : L.length = k
  sm : ∀ u ∈ L, VSm u
  h0 : g < B2
  h1 : B2 < T
  h2 : T < base
  h3 : B2 = w0.heap.size
theorem DrJ.step {g B2 T base k : Nat} {L : List VecD} {vs c0 : Value} {w0 w w' : World} (h : DrJ g B2 T base k L vs c0 w0 w) (s : Step g w w') : DrJ g B2 T base k L vs c0 w0 w' := by
  have h0 := h.h0; have h1 := h.h1; have h2 := h.h2
  exact ⟨s.1, by rw [s.2.block T (Array.getElem?_eq_some_iff.1 h.box).1 (by omega)]; exact h.box, by rw [s.2.block B2 (Array.getElem?_eq_some_iff.1 h.res).1 (by omega)]; exact h.res, own_chg h.own s.2 (by omega), h.chg.trans s.2, h.len, h.sm, h0, h1, h2, h.h3⟩
theorem DrJ.below {g B2 T base k : Nat} {L : List VecD} {vs c0 : Value} {w0 w w' : World} (h : DrJ g B2 T base k L vs c0 w0 w) (hb : Below w.heap.size w w') : DrJ g B2 T base k L vs c0 w0 w' :=
  ⟨h.cur.below hb, heap_keep h.box hb, heap_keep h.res hb, own_kept h.own hb, h.chg.trans (Chg.of_below hb), h.len, h.sm, h.h0, h.h1, h.h2, h.h3⟩
/-- As a stage. -/
def drS (g B2 T base k : Nat) (L : List VecD) (vs c0 : Value) (w0 : World) : StP := ⟨fun w => DrJ g B2 T base k L vs c0 w0 w, fun _ _ h hb => h.below hb⟩
/-- .. with a vector in a block of its own. -/
def drV (g B2 T base k : Nat) (L : List VecD) (vs c0 : Value) (w0 : World) (b : Nat) (x y z : Int) : StP :=
  ⟨fun w => DrJ g B2 T base k L vs c0 w0 w ∧ w.heap[b]? = some (.cells #[.int .i64 x, .int .i64 y, .int .i64 z] 29 (0, 0)), fun _ _ h hb => ⟨h.1.below hb, heap_keep h.2 hb⟩⟩
theorem Cur.grown {w w' : World} {g : Nat} {row : Option Nat} (h : Cur w g) (hg : w.grownBy w' row) (hr : ∀ b, row = some b → g < b) : Cur w' g := by
  have hl := h.lt
  obtain ⟨a, n, cap, i, hh, C, h1, h2, h3, h5⟩ := h
  refine ⟨a, n, cap, i, hh, C, by rw [hg.block g hl (fun e => by have := hr g e.symm; omega)]; exact h1, h2, h3, fun hn => ?_⟩
  obtain ⟨b, o, rfl, hlt, hc⟩ := h5 hn
  refine ⟨b, o, rfl, hlt, fun k hk => ⟨?_, (hc k hk).2⟩⟩
  rw [World.cell?_of_block (hg.block b (by omega) (fun e => by have := hr b e.symm; omega))]
  exact (hc k hk).1
theorem set1 {w : World} {B : Nat} {T : TypeId} {z0 z1 : Value} (h : w.heap[B]? = some (.cells #[z0, z1] T (0, 0))) (v0 : Value) : (w.setCell ⟨B, 0, none⟩ v0).heap[B]? = some (.cells #[v0, z1] T (0, 0)) := by
  simp [World.setCell, Array.getElem?_modify, h]
theorem chg_set1 (w : World) (B j : Nat) (v0 : Value) : Chg B (B + 1) w (w.setCell ⟨B, j, none⟩ v0) := ⟨rfl, rfl, rfl, by simp [World.setCell], fun k _ hk => heap_setO _ _ _ (by omega)⟩
theorem DrJ.app {g B2 T base k : Nat} {L : List VecD} {vs c0 : Value} {w0 w w1 : World} {x y z : Int} {gg cap : Nat} (h : DrJ g B2 T base k L vs c0 w0 w)
    (hown : w1.ownsRow base 29 3 (.slice (some ⟨gg, 0, none⟩) (k + 1) cap) (k + 1) (vecVals L ++ [.int .i64 x, .int .i64 y, .int .i64 z])) (hg : w.grownBy w1 vs.ownBlock) (hs : VSm ⟨x, y, z⟩) :
    DrJ g B2 T base (k + 1) (L ++ [⟨x, y, z⟩]) (.slice (some ⟨gg, 0, none⟩) (k + 1) cap) c0 w0 w1 := by
  have h0 := h.h0; have h1 := h.h1; have h2 := h.h2; have h3 := h.h3
  have hr : ∀ b, vs.ownBlock = some b → base ≤ b := fun b e => (h.own.lt b e).1
  have hw := h.chg.size
  refine ⟨h.cur.grown hg (fun b e => by have := hr b e; omega), heap_at_other h.box hg (fun q => by have := hr T q; omega), heap_at_other h.res hg (fun q => by have := hr B2 q; omega), by rw [vecVals_snoc]; exact hown, ?_, by rw [List.length_append, h.len]; rfl, ?_, h0, h1, h2, h3⟩
  · refine ⟨hg.os.trans h.chg.os, hg.tape.trans h.chg.tape, hg.output.trans h.chg.output, Nat.le_trans hw hg.size, fun j hj ho => ?_⟩
    rw [hg.block j (by omega) (fun e => by have := hr j e.symm; omega)]
    exact h.chg.block j hj ho
  · intro u hu
    rcases List.mem_append.1 hu with h4 | h4
    · exact h.sm u h4
    · rw [List.mem_singleton.1 h4]; exact hs
theorem DrJ.put {g B2 T base k : Nat} {L : List VecD} {vs c0 : Value} {w0 w : World} (h : DrJ g B2 T base k L vs c0 w0 w) (hw0 : w0.heap.size ≤ T) : DrJ g B2 T base k L vs vs w0 (w.setCell ⟨T, 0, none⟩ vs) := by
  have h0 := h.h0; have h1 := h.h1; have h2 := h.h2
  have hc := chg_set1 w T 0 vs
  refine ⟨h.cur.chg hc (by omega), set1 h.box _, by rw [hc.block B2 (Array.getElem?_eq_some_iff.1 h.res).1 (by omega)]; exact h.res, own_chg h.own hc (by omega), ?_, h.len, h.sm, h0, h1, h2, h.h3⟩
  refine ⟨h.chg.os, h.chg.tape, h.chg.output, Nat.le_trans h.chg.size hc.size, fun j hj ho => ?_⟩
  rw [hc.block j (by have := h.chg.size; omega) (by omega)]
  exact h.chg.block j hj ho
theorem gives_append {P : Program} {o : Oper} {a : Act} {w : World} {R : Value → World → Prop} (s x : Operand) (t : TypeId)
    (ho : o.op = .call { callee := .builtin .append, args := #[s, x], argTypes := #[t, t] })
    (base : Nat) (e : TypeId) (i : TypeInfo) (z : Value) (size bytes : Nat) (ht : P.underlying t = some (.slice e)) (hi : P.info? e = some i) (hz : i.zero = some z)
    (hsize : i.size = size) (hby : i.bytes = bytes) (hzs : z.cells.size = size) (hsz : 0 < size)
    (v : Value) (n : Nat) (xs : List Value) (hs : a.eval s = v) (hown : w.ownsRow base e size v n xs)
    (ad : Addr) (m c : Nat) (news : List Value) (hx : a.eval x = .slice (some ad) m c) (hl : news.length = m * size) (hnews : ∀ j u, news[j]? = some u → w.cell? (ad.add j) = some u) (h1 : ∀ u ∈ news, u.oneCell' = true)
    (hm : 0 < m) (h63 : n + m ≤ maxLen) (hbytes : (n + m) * bytes ≤ 140737488355328) (hbase : base ≤ w.heap.size)
    (h : ∀ g cap w', w'.ownsRow base e size (.slice (some ⟨g, 0, none⟩) (n + m) cap) (n + m) (xs ++ news) → w.grownBy w' v.ownBlock → R (.slice (some ⟨g, 0, none⟩) (n + m) cap) w') : Oper.givesAt P a o R w := by
  obtain ⟨g, cap, w', hr, h2, h3, _, _⟩ := run_append_lies (P := P) w t o.type base e i z size bytes ht hi hz hsize hby hzs hsz v n xs hown ad m c news hl hnews h1 hm h63 hbytes hbase _ rfl
  refine gives_value (u := .slice (some ⟨g, 0, none⟩) (n + m) cap) (w' := w') ?_ (h g cap w' h2 h3)
  unfold execOp
  simp only [ho, resolve, invoke, builtin, Sem.run_bind, Sem.run_pure, Result.andThen_ok, List.map_toArray, List.map_cons, List.map_nil, hs, hx, hr]
theorem wrap_sm {a : Int} (h : -100000 ≤ a ∧ a ≤ 100000) : IntKind.i64.wrap a = a := IntWalk.i64_in _ (by omega)
theorem cube_sm {k : Nat} {x y z : Int} (hk : k < 8) (x1 : 0 ≤ x) (x2 : x < 9) (y1 : 0 ≤ y) (y2 : y < 9) (z1 : 0 ≤ z) (z2 : z < 9) :
    VSm ⟨IntKind.i64.wrap (IntKind.i64.wrap (IntKind.i64.wrap ((k : Int).tmod 2 * 90) - 45) + x), IntKind.i64.wrap (IntKind.i64.wrap (IntKind.i64.wrap ((IntKind.i64.wrap ((k : Int) / 2)).tmod 2 * 90) - 45) + y), IntKind.i64.wrap (IntKind.i64.wrap (100 + IntKind.i64.wrap (IntKind.i64.wrap ((k : Int) / 4) * 90)) + z)⟩ := by
  have h1 : (0 : Int) ≤ (k : Int).tmod 2 ∧ (k : Int).tmod 2 ≤ 1 := by rw [Int.tmod_eq_emod_of_nonneg (by omega)]; omega
  have h2 : (0 : Int) ≤ ((k : Int) / 2).tmod 2 ∧ ((k : Int) / 2).tmod 2 ≤ 1 := by rw [Int.tmod_eq_emod_of_nonneg (by omega)]; omega
  have h3 : (0 : Int) ≤ (k : Int) / 4 ∧ (k : Int) / 4 ≤ 1 := by omega
  have e2 : IntKind.i64.wrap ((k : Int) / 2) = (k : Int) / 2 := wrap_sm (by omega)
  have e4 : IntKind.i64.wrap ((k : Int) / 4) = (k : Int) / 4 := wrap_sm (by omega)
  rw [e2, e4]
  generalize (k : Int).tmod 2 = p at *
  generalize ((k : Int) / 2).tmod 2 = q at *
  generalize (k : Int) / 4 = r at *
  rw [wrap_sm (a := p * 90) (by omega), wrap_sm (a := p * 90 - 45) (by omega), wrap_sm (a := p * 90 - 45 + x) (by omega), wrap_sm (a := q * 90) (by omega), wrap_sm (a := q * 90 - 45) (by omega), wrap_sm (a := q * 90 - 45 + y) (by omega), wrap_sm (a := r * 90) (by omega), wrap_sm (a := 100 + r * 90) (by omega), wrap_sm (a := 100 + r * 90 + z) (by omega)]
  exact ⟨by simp only; omega, by simp only; omega, by simp only; omega⟩
/-- The cube's faces are laid, their row stored. -/
def cubeW (wr : World) (T : Nat) : World :=
  ((((((((wr.setCell ⟨T, 1, none⟩ (.slice (some ⟨wr.heap.size + 1 + 1 + 1 + 1 + 1 + 1, 0, none⟩) 6 6)).alloc (.cells #[.int .i64 0, .int .i64 2, .int .i64 3, .int .i64 1] 3)).alloc (.cells #[.int .i64 4, .int .i64 5, .int .i64 7, .int .i64 6] 3)).alloc (.cells #[.int .i64 0, .int .i64 1, .int .i64 5, .int .i64 4] 3)).alloc
    (.cells #[.int .i64 2, .int .i64 6, .int .i64 7, .int .i64 3] 3)).alloc (.cells #[.int .i64 0, .int .i64 4, .int .i64 6, .int .i64 2] 3)).alloc (.cells #[.int .i64 1, .int .i64 3, .int .i64 7, .int .i64 5] 3)).alloc
    (.cells #[.slice (some ⟨wr.heap.size, 0, none⟩) 4 4, .slice (some ⟨wr.heap.size + 1, 0, none⟩) 4 4, .slice (some ⟨wr.heap.size + 1 + 1, 0, none⟩) 4 4, .slice (some ⟨wr.heap.size + 1 + 1 + 1, 0, none⟩) 4 4, .slice (some ⟨wr.heap.size + 1 + 1 + 1 + 1, 0, none⟩) 4 4, .slice (some ⟨wr.heap.size + 1 + 1 + 1 + 1 + 1, 0, none⟩) 4 4] 57))
theorem set1b {w : World} {B : Nat} {T : TypeId} {z0 z1 : Value} (h : w.heap[B]? = some (.cells #[z0, z1] T (0, 0))) (v1 : Value) : (w.setCell ⟨B, 1, none⟩ v1).heap[B]? = some (.cells #[z0, v1] T (0, 0)) := by
  simp [World.setCell, Array.getElem?_modify, h]
/-- The mesh stands in box T, whole. -/
structure DrW (g B2 T base nV nF : Nat) (L : List VecD) (F : List (List Int)) (vs fs : Value) (w0 w : World) : Prop where
  box : w.heap[T]? = some (.cells #[vs, fs] 26 (0, 0))
  res : w.heap[B2]? = some (.cells #[.slice none 0 0, .slice none 0 0] 26 (0, 0))
  own : w.ownsRow base 29 3 vs nV (vecVals L)
  fcs : FacesG base nF fs F w
  chg : Chg g (g + 1) w0 w
  len : L.length = nV
  sm : ∀ u ∈ L, VSm u
  h0 : g < B2
  h1 : B2 < T
  h2 : T < base
  h3 : B2 = w0.heap.size
theorem DrJ.whole {g B2 T base k : Nat} {L : List VecD} {vs : Value} {w0 wr : World} (h : DrJ g B2 T base k L vs vs w0 wr) (hbase : base ≤ wr.heap.size) : DrW g B2 T base k 6 L cubeF vs (.slice (some ⟨wr.heap.size + 1 + 1 + 1 + 1 + 1 + 1, 0, none⟩) 6 6) w0 (cubeW wr T) := by
  have h0 := h.h0; have h1 := h.h1; have h2 := h.h2; have h3 := h.h3
  have hw := h.chg.size
  have hT := (Array.getElem?_eq_some_iff.1 h.box).1
  have hc := chg_set1 wr T 1 (.slice (some ⟨wr.heap.size + 1 + 1 + 1 + 1 + 1 + 1, 0, none⟩) 6 6)
  have hz : (wr.setCell ⟨T, 1, none⟩ (.slice (some ⟨wr.heap.size + 1 + 1 + 1 + 1 + 1 + 1, 0, none⟩) 6 6)).heap.size = wr.heap.size := by simp [World.setCell]
  have hb := set1b h.box (.slice (some ⟨wr.heap.size + 1 + 1 + 1 + 1 + 1 + 1, 0, none⟩) 6 6)
  have hr : (wr.setCell ⟨T, 1, none⟩ (.slice (some ⟨wr.heap.size + 1 + 1 + 1 + 1 + 1 + 1, 0, none⟩) 6 6)).heap[B2]? = some (.cells #[.slice none 0 0, .slice none 0 0] 26 (0, 0)) := by
    rw [hc.block B2 (Array.getElem?_eq_some_iff.1 h.res).1 (by omega)]; exact h.res
  have ho := own_chg h.own hc (by omega)
  unfold cubeW
  generalize wr.setCell ⟨T, 1, none⟩ (.slice (some ⟨wr.heap.size + 1 + 1 + 1 + 1 + 1 + 1, 0, none⟩) 6 6) = w1 at *
  rw [← hz] at hb ⊢
  have hbe : Below w1.heap.size w1 ((((((((w1.alloc (.cells #[.int .i64 0, .int .i64 2, .int .i64 3, .int .i64 1] 3)).alloc (.cells #[.int .i64 4, .int .i64 5, .int .i64 7, .int .i64 6] 3)).alloc (.cells #[.int .i64 0, .int .i64 1, .int .i64 5, .int .i64 4] 3)).alloc
    (.cells #[.int .i64 2, .int .i64 6, .int .i64 7, .int .i64 3] 3)).alloc (.cells #[.int .i64 0, .int .i64 4, .int .i64 6, .int .i64 2] 3)).alloc (.cells #[.int .i64 1, .int .i64 3, .int .i64 7, .int .i64 5] 3)).alloc
    (.cells #[.slice (some ⟨w1.heap.size, 0, none⟩) 4 4, .slice (some ⟨w1.heap.size + 1, 0, none⟩) 4 4, .slice (some ⟨w1.heap.size + 1 + 1, 0, none⟩) 4 4, .slice (some ⟨w1.heap.size + 1 + 1 + 1, 0, none⟩) 4 4, .slice (some ⟨w1.heap.size + 1 + 1 + 1 + 1, 0, none⟩) 4 4, .slice (some ⟨w1.heap.size + 1 + 1 + 1 + 1 + 1, 0, none⟩) 4 4] 57))) := (by repeat (first | exact Below.refl _ _ | refine Below.drew ?_ | refine Below.alloc ?_ (by first | exact Nat.le_refl _ | (simp; done) | (simp; omega) | omega) _ | refine Below.more ?_ (by first | exact Nat.le_refl _ | (simp; done) | (simp; omega) | omega) _ _ | refine Below.setCell ?_ (by first | exact Nat.le_refl _ | (simp; done) | (simp; omega) | omega) _ | assumption))
  refine ⟨heap_keep hb hbe, heap_keep hr hbe, own_kept ho hbe, facesG_of ⟨fun i => w1.heap.size + i, ⟨rfl, .inr ⟨w1.heap.size + 1 + 1 + 1 + 1 + 1 + 1, 6, ⟨heads4 (fun i => w1.heap.size + i) 6⟩, rfl, by omega, ?_, by omega, by simp [maxLen], rfl, rfl⟩⟩, ?_, fun i j hij hj q => by simp only at q; omega⟩, ?_, h.len, h.sm, h0, h1, h2, h3⟩
  · (simp only [World.alloc, Array.getElem?_push, Array.size_push]; repeat (first | rfl | rw [if_pos (by omega)] | rw [if_neg (by omega)]))
  · intro i hi
    refine ⟨by simp only; omega, ?_, ?_⟩
    · match i, hi with
      | 0, _ => rfl
      | 1, _ => rfl
      | 2, _ => rfl
      | 3, _ => rfl
      | 4, _ => rfl
      | 5, _ => rfl
    · match i, hi with
      | 0, _ => (simp only [World.alloc, Array.getElem?_push, Array.size_push]; repeat (first | rfl | rw [if_pos (by omega)] | rw [if_neg (by omega)]))
      | 1, _ => (simp only [World.alloc, Array.getElem?_push, Array.size_push]; repeat (first | rfl | rw [if_pos (by omega)] | rw [if_neg (by omega)]))
      | 2, _ => (simp only [World.alloc, Array.getElem?_push, Array.size_push]; repeat (first | rfl | rw [if_pos (by omega)] | rw [if_neg (by omega)]))
      | 3, _ => (simp only [World.alloc, Array.getElem?_push, Array.size_push]; repeat (first | rfl | rw [if_pos (by omega)] | rw [if_neg (by omega)]))
      | 4, _ => (simp only [World.alloc, Array.getElem?_push, Array.size_push]; repeat (first | rfl | rw [if_pos (by omega)] | rw [if_neg (by omega)]))
      | 5, _ => (simp only [World.alloc, Array.getElem?_push, Array.size_push]; repeat (first | rfl | rw [if_pos (by omega)] | rw [if_neg (by omega)]))
  · exact ⟨hbe.os.trans (hc.os.trans h.chg.os), hbe.tape.trans (hc.tape.trans h.chg.tape), hbe.output.trans (hc.output.trans h.chg.output), by have := hbe.size; omega, fun j hj hq => by
      rw [hbe.block j (by omega), hc.block j (by omega) (by omega)]; exact h.chg.block j hj hq⟩
def DrawnT (p : MeshD) : Prop := (∀ u ∈ p.verts, VSm u) ∧ ((p.faces = cubeF ∧ p.nF = 6 ∧ p.nV = 8) ∨ ∃ n, 1 ≤ n ∧ n ≤ 3 ∧ p.faces = stripF n ∧ p.nF = n ∧ p.nV = 2 * n + 2)
theorem two_cells {w : World} {B : Nat} {T : TypeId} {z0 z1 : Value} (h : w.heap[B]? = some (.cells #[z0, z1] T (0, 0))) (a b : Value) :
    (w.setCell ⟨B, 0, none⟩ a).cell? ⟨B, 0, none⟩ = some a ∧ ((w.setCell ⟨B, 0, none⟩ a).setCell ⟨B, 1, none⟩ b).cell? ⟨B, 1, none⟩ = some b :=
  ⟨cell_at (j := 0) (set1 h a) rfl, cell_at (j := 1) (set1b (set1 h a) b) rfl⟩
/-- The result's box has it too. -/
theorem DrW.done {g B2 T base nV nF : Nat} {L : List VecD} {F : List (List Int)} {vs fs : Value} {w0 w : World} (h : DrW g B2 T base nV nF L F vs fs w0 w) (hF : F.length = nF) (hv : nV ≤ 1000) (hf : nF ≤ 1000) :
    MeshX ((w.setCell ⟨B2, 0, none⟩ vs).setCell ⟨B2, 1, none⟩ fs) w0.heap.size ((w.setCell ⟨B2, 0, none⟩ vs).setCell ⟨B2, 1, none⟩ fs).heap.size (.agg #[vs, fs]) ⟨L, F, nV, nF, h.len, hF⟩ none ∧ Chg g (g + 1) w0 ((w.setCell ⟨B2, 0, none⟩ vs).setCell ⟨B2, 1, none⟩ fs) := by
  have h0 := h.h0; have h1 := h.h1; have h2 := h.h2; have h3 := h.h3
  have hw := h.chg.size
  have hc := (chg_set1 w B2 0 vs).trans (chg_set1 (w.setCell ⟨B2, 0, none⟩ vs) B2 1 fs)
  have hx := meshX_g (p := ⟨L, F, nV, nF, h.len, hF⟩) h.own h.fcs hv hf
  exact ⟨(hx.chg hc (.inr (by omega))).wide (by omega) hc.size, hc.os.trans h.chg.os, hc.tape.trans h.chg.tape, hc.output.trans h.chg.output, by have := hc.size; omega, fun j hj hq => by
    rw [hc.block j (by omega) (by omega)]; exact h.chg.block j hj hq⟩
theorem own_cap {w : World} {base s n c : Nat} {e : TypeId} {a : Option Addr} {xs : List Value} (h : w.ownsRow base e s (.slice a n c) n xs) (hn : 0 < n) : n ≤ c ∧ c ≤ 9223372036854775807 := by
  rcases h.2 with ⟨_, h0⟩ | ⟨g, cap, cur, hv, _, _, h1, h2, _⟩
  · omega
  · cases hv
    exact ⟨h1, by simpa [maxLen] using h2⟩
def CapOk (v : Value) (p : MeshD) : Prop := ∃ a c a' c', v = .agg #[.slice a p.nV c, .slice a' p.nF c'] ∧ p.nV ≤ c ∧ c ≤ 9223372036854775807
def MeshQ (g : Nat) (w : World) (e : Ending) (w' : World) : Prop := ∃ v p, e = .returned v ∧ MeshX w' w.heap.size w'.heap.size v p none ∧ DrawnT p ∧ CapOk v p ∧ Chg g (g + 1) w w'
set_option maxRecDepth 100000 in
set_option maxHeartbeats 8000000 in
theorem l06Cube_c (g : Nat) (w : World) (h : Cur w g) : Calls Try.prog 34 #[.pointer (some ⟨g, 0, none⟩)] w (MeshQ g w) := by
  have hlt := h.lt
  have HC := Lib.hid h
  clear h
  obtain ⟨i0, hi, hz0, hz1, hz2⟩ := info_parts info_VecA
  go_enter Try.func34, Try.ntmps34
  go_wp2
  go_loopw [4] (fun i wr => ∃ (k : Nat) (L : List VecD) (vs : Value), k ≤ 8 ∧ i = .int .i64 k ∧ DrJ g w.heap.size (w.heap.size + 1) (w.heap.size + 1 + 1) k L vs vs w wr) (fun i _ => 8 - (intOf i).toNat)
  case atStart =>
    refine ⟨0, [], _, by omega, rfl, HC.out.below (by repeat (first | exact Below.refl _ _ | refine Below.drew ?_ | refine Below.alloc ?_ (by first | exact Nat.le_refl _ | (simp; done) | (simp; omega) | omega) _ | refine Below.more ?_ (by first | exact Nat.le_refl _ | (simp; done) | (simp; omega) | omega) _ _ | refine Below.setCell ?_ (by first | exact Nat.le_refl _ | (simp; done) | (simp; omega) | omega) _ | assumption)), ?_, ?_, World.ownsRow_nil _ _ _ _, Chg.of_below (by repeat (first | exact Below.refl _ _ | refine Below.drew ?_ | refine Below.alloc ?_ (by first | exact Nat.le_refl _ | (simp; done) | (simp; omega) | omega) _ | refine Below.more ?_ (by first | exact Nat.le_refl _ | (simp; done) | (simp; omega) | omega) _ _ | refine Below.setCell ?_ (by first | exact Nat.le_refl _ | (simp; done) | (simp; omega) | omega) _ | assumption)), rfl, (fun u hu => by cases hu), hlt, by omega, by omega, rfl⟩
    · exact heap_at_new (by simp)
    · exact (heap_alloc_old _ _ (by simp)).trans (heap_alloc_new _ _)
  case round =>
    obtain ⟨k, L, vs, hk, rfl, hdr⟩ := hrel
    have HI := Lib.hid hdr
    have hTl := (Array.getElem?_eq_some_iff.1 hdr.box).1
    clear hdr
    by_cases hlt8 : k < 8
    · have hk1 : (k : Int) < 8 := by omega
      go_wp2
      refine region_stage3 (C := fun w' => w'.heap[w.heap.size + 1]? = some (.cells #[vs, .slice none 0 0] 26 (0, 0))) [(0, 0), (1, 1), (2, 0), (3, 0), (4, 0), (5, 0), (6, 0), (9, 0), (10, 0), (11, 0), (12, 0), (13, 0), (14, 0), (17, 0), (18, 0), (19, 0), (20, 0), (21, 0), (7, 2), (8, 0), (15, 2), (16, 0), (22, 2), (23, 0), (24, 0), (25, 2), (26, 2), (27, 0), (28, 2)] 28 (drS g w.heap.size (w.heap.size + 1) (w.heap.size + 1 + 1) k L vs vs w) (by kernel_rfl) (by kernel_rfl) (fun _ _ h hb => heap_keep h hb) HI.out HI.out.box ?_
      repeat (refine run_quiet rfl (fun K hK => ?_); go_simp; refine hK _ ?_; clear hK K)
      refine run_load rfl (fun K hK => ?_)
      go_simp
      refine ⟨vs, fun zt ht => (by have c := cell_at (j := 0) ht rfl; simp [c, Result.andThen]), hK _ ?_⟩
      clear hK K
      repeat (refine run_quiet rfl (fun K hK => ?_); go_simp; refine hK _ ?_; clear hK K)
      refine run_step rfl (by rfl) (fun K hK wa hs hc => ?_)
      have HS := Lib.hid (show DrJ g w.heap.size (w.heap.size + 1) (w.heap.size + 1 + 1) k L vs vs w wa from hs)
      clear hs hc
      unfold Oper.givesAt
      go_simp
      refine (l01Below_c g 9 _ HS.out.cur (by omega) (by omega)).mono ?_
      rintro e wz ⟨x, x1, x2, rfl, s⟩
      refine ⟨_, rfl, drS g w.heap.size (w.heap.size + 1) (w.heap.size + 1 + 1) k L vs vs w, HS.out.step s, (HS.out.step s).box, hK _ _ ?_⟩
      clear hK K s HS wa wz
      repeat (refine run_quiet rfl (fun K hK => ?_); go_simp; refine hK _ ?_; clear hK K)
      refine run_step rfl (by rfl) (fun K hK wa hs hc => ?_)
      have HS := Lib.hid (show DrJ g w.heap.size (w.heap.size + 1) (w.heap.size + 1 + 1) k L vs vs w wa from hs)
      clear hs hc
      unfold Oper.givesAt
      go_simp
      refine (l01Below_c g 9 _ HS.out.cur (by omega) (by omega)).mono ?_
      rintro e wz ⟨y, y1, y2, rfl, s⟩
      refine ⟨_, rfl, drS g w.heap.size (w.heap.size + 1) (w.heap.size + 1 + 1) k L vs vs w, HS.out.step s, (HS.out.step s).box, hK _ _ ?_⟩
      clear hK K s HS wa wz
      repeat (refine run_quiet rfl (fun K hK => ?_); go_simp; refine hK _ ?_; clear hK K)
      refine run_step rfl (by rfl) (fun K hK wa hs hc => ?_)
      have HS := Lib.hid (show DrJ g w.heap.size (w.heap.size + 1) (w.heap.size + 1 + 1) k L vs vs w wa from hs)
      clear hs hc
      unfold Oper.givesAt
      go_simp
      refine (l01Below_c g 9 _ HS.out.cur (by omega) (by omega)).mono ?_
      rintro e wz ⟨z, z1, z2, rfl, s⟩
      refine ⟨_, rfl, drS g w.heap.size (w.heap.size + 1) (w.heap.size + 1 + 1) k L vs vs w, HS.out.step s, (HS.out.step s).box, hK _ _ ?_⟩
      clear hK K s HS wa wz
      repeat (refine run_quiet rfl (fun K hK => ?_); go_simp; refine hK _ ?_; clear hK K)
      refine run_step rfl (by rfl) (fun K hK wa hs hc => ?_)
      have HS := Lib.hid (show DrJ g w.heap.size (w.heap.size + 1) (w.heap.size + 1 + 1) k L vs vs w wa from hs)
      clear hs hc
      unfold Oper.givesAt
      go_simp
      refine ⟨drV g w.heap.size (w.heap.size + 1) (w.heap.size + 1 + 1) k L vs vs w wa.heap.size _ _ _, ⟨HS.out.below (by repeat (first | exact Below.refl _ _ | refine Below.drew ?_ | refine Below.alloc ?_ (by first | exact Nat.le_refl _ | (simp; done) | (simp; omega) | omega) _ | refine Below.more ?_ (by first | exact Nat.le_refl _ | (simp; done) | (simp; omega) | omega) _ _ | refine Below.setCell ?_ (by first | exact Nat.le_refl _ | (simp; done) | (simp; omega) | omega) _ | assumption)), heap_alloc_new _ _⟩, heap_keep HS.out.box (by repeat (first | exact Below.refl _ _ | refine Below.drew ?_ | refine Below.alloc ?_ (by first | exact Nat.le_refl _ | (simp; done) | (simp; omega) | omega) _ | refine Below.more ?_ (by first | exact Nat.le_refl _ | (simp; done) | (simp; omega) | omega) _ _ | refine Below.setCell ?_ (by first | exact Nat.le_refl _ | (simp; done) | (simp; omega) | omega) _ | assumption)), hK _ _ ?_⟩
      clear hK K HS
      generalize wa.heap.size = b
      clear wa
      refine run_step rfl (by rfl) (fun K hK wa hs hc => ?_)
      have HS := Lib.hid (show DrJ g w.heap.size (w.heap.size + 1) (w.heap.size + 1 + 1) k L vs vs w wa ∧ wa.heap[b]? = some (.cells #[.int .i64 _, .int .i64 _, .int .i64 _] 29 (0, 0)) from hs)
      have hTa := (Array.getElem?_eq_some_iff.1 HS.out.1.box).1
      clear hs hc
      refine gives_append _ _ _ (by rfl) (w.heap.size + 1 + 1) 29 i0 _ 3 24 Try.underlying23 hi hz0 hz1 hz2 (by rfl) (by decide) vs k (vecVals L) (by rfl) HS.out.1.own ⟨b, 0, none⟩ 1 1 _ (by rfl) (by rfl) (World.news_of_block HS.out.2) ?_ (by decide) (by simp only [maxLen]; omega) (by omega) (by omega) ?_
      · intro u hu
        simp at hu
        rcases hu with rfl | rfl | rfl <;> rfl
      intro gg cap w1 hown hgrow
      have hJ := fun hv => DrJ.app HS.out.1 hown hgrow hv
      obtain ⟨L1, hJ'⟩ : ∃ L1, DrJ g w.heap.size (w.heap.size + 1) (w.heap.size + 1 + 1) (k + 1) L1 (.slice (some ⟨gg, 0, none⟩) (k + 1) cap) vs w w1 := ⟨_, hJ (cube_sm hlt8 x1 x2 y1 y2 z1 z2)⟩
      have HJ := Lib.hid hJ'
      clear hJ hJ'
      refine ⟨drS g w.heap.size (w.heap.size + 1) (w.heap.size + 1 + 1) (k + 1) L1 (.slice (some ⟨gg, 0, none⟩) (k + 1) cap) vs w, HJ.out, HJ.out.box, hK _ _ ?_⟩
      clear hK K HJ hown hgrow w1 HS hTa wa
      repeat (refine run_quiet rfl (fun K hK => ?_); go_simp; refine hK _ ?_; clear hK K)
      refine run_last rfl (by rfl) (drS g w.heap.size (w.heap.size + 1) (w.heap.size + 1 + 1) (k + 1) L1 (.slice (some ⟨gg, 0, none⟩) (k + 1) cap) (.slice (some ⟨gg, 0, none⟩) (k + 1) cap) w) (fun wa hs hc => ?_) (fun wb hb => ?_)
      · have HS := Lib.hid hs
        have c0 := cell_at (j := 0) hc rfl
        have c1 := frozen_at (j := 0) hc
        clear hs hc
        unfold Oper.givesAt
        go_simp
        exact DrJ.put HS.out (by omega)
      · have HB := Lib.hid hb
        clear hb
        simp only [Act.put, List.setIfInBounds_toArray]
        go_wp2
        exact ⟨⟨k + 1, L1, _, by omega, by first | rfl | go_num, HB.out⟩, by simp only [intOf]; omega⟩
    · obtain rfl : k = 8 := by omega
      obtain ⟨gv, cv, rfl, _, _⟩ := HI.out.own.form (by decide)
      have hTr := (Array.getElem?_eq_some_iff.1 HI.out.res).1
      have c0 := cell_at (j := 0) HI.out.box rfl
      have c1 := cell_at (j := 1) HI.out.box rfl
      have c2 := frozen_at (j := 1) HI.out.box
      have c3 := frozen_at (j := 0) HI.out.res
      have c4 := frozen_at (j := 1) HI.out.res
      have c5 := cell_at (j := 0) HI.out.res rfl
      have c6 := cell_at (j := 1) HI.out.res rfl
      go_upto_region 6 with fail
      go_cut [44] (fun s44 wx => DrW g w.heap.size (w.heap.size + 1) (w.heap.size + 1 + 1) 8 6 L cubeF (.slice (some ⟨gv, 0, none⟩) 8 cv) s44 w wx)
      case first =>
        go_wp2
        go_meet
        exact HI.out.whole (by omega)
      case rest =>
        rename World => wx
        obtain ⟨U, hrow, _⟩ := hcut.fcs
        obtain ⟨fg, fc, rfl, _, _⟩ := hrow.form (by decide)
        have HW := Lib.hid hcut
        clear hrow hcut c0 c1 c2 c3 c4 c5 c6
        have hTx := (Array.getElem?_eq_some_iff.1 HW.out.res).1
        have c0 := cell_at (j := 0) HW.out.box rfl
        have c1 := cell_at (j := 1) HW.out.box rfl
        have c3 := frozen_at (j := 0) HW.out.res
        have c4 := frozen_at (j := 1) HW.out.res
        have c5 := cell_at (j := 0) HW.out.res rfl
        have c6 := cell_at (j := 1) HW.out.res rfl
        go_wp2
        obtain ⟨e0, e1⟩ := two_cells HW.out.res (.slice (some ⟨gv, 0, none⟩) 8 cv) (.slice (some ⟨fg, 0, none⟩) 6 fc)
        refine bodyPost_ret (v := .agg #[.slice (some ⟨gv, 0, none⟩) 8 cv, .slice (some ⟨fg, 0, none⟩) 6 fc]) (by simp [results, Try.results34, go_sem, e0, e1]) rfl ⟨_, _, rfl, (HW.out.done rfl (by decide) (by decide)).1, ⟨HW.out.sm, .inl ⟨rfl, rfl, rfl⟩⟩, ⟨_, _, _, _, rfl, own_cap HW.out.own (show 0 < 8 by omega)⟩, (HW.out.done rfl (by decide) (by decide)).2⟩
end Go.Proofs.Ytpfmcobkfofbjaa
