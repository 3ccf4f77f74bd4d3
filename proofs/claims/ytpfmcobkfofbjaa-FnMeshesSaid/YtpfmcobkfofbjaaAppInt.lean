/- AppInt, with Append ahead of it. -/
import Derived.Test.YtpfmcobkfofbjaaBase
import Derived.Laws.AppendOwn
import Derived.OwnWalk
import Derived.Test.YtpfmcobkfofbjaaSInt
namespace Go.Proofs.Ytpfmcobkfofbjaa
open Go Go.RowKit
theorem own_more {w : World} {base : Nat} {e : TypeId} {s : Nat} {v : Value} {n : Nat} {xs : List Value} (h : w.ownsRow base e s v n xs) (X : Array Obj) (d : Nat) : (more w X d).ownsRow base e s v n xs := by
  refine ⟨h.1, h.2.imp id ?_⟩
  rintro ⟨g, cap, cur, hv, hb, hg, r⟩
  exact ⟨g, cap, cur, hv, hb, by rw [heap_more g (Array.getElem?_eq_some_iff.1 hg).1]; exact hg, r⟩
theorem Below.grown {B : Nat} {a b c : World} {row : Option Nat} (h : Below B a b) (hg : b.grownBy c row) (hB : B ≤ b.heap.size) (hr : ∀ k, row = some k → B ≤ k) : Below B a c :=
  h.trans ⟨hg.os, hg.tape, hg.output, hg.size, fun k hk => hg.block k (Nat.lt_of_lt_of_le hk hB) (fun e => by have := hr k e.symm; omega)⟩
theorem wpList_append_more {P : Program} (w : World) {wa : World} (hb : Below w.heap.size w wa) {ops : Array Oper} {rest : List Oper} {o : Oper} {a : Act} {Q : Exit → Act → World → Prop} (hgd : o.guard = none) (s x : Operand) (t : TypeId)
    (ho : o.op = .call { callee := .builtin .append, args := #[s, x], argTypes := #[t, t] })
    (e : TypeId) (i : TypeInfo) (z : Value) (size bytes : Nat) (ht : P.underlying t = some (.slice e)) (hi : P.info? e = some i) (hz : i.zero = some z)
    (hsize : i.size = size) (hby : i.bytes = bytes) (hzs : z.cells.size = size) (hsz : 0 < size)
    (v : Value) (n : Nat) (xs : List Value) (hs : a.eval s = v) (hown : wa.ownsRow w.heap.size e size v n xs)
    (ad : Addr) (m c : Nat) (news : List Value) (hx : a.eval x = .slice (some ad) m c) (hl : news.length = m * size) (hnews : ∀ j u, news[j]? = some u → wa.cell? (ad.add j) = some u) (h1 : ∀ u ∈ news, u.oneCell' = true)
    (h63 : n + m ≤ maxLen) (hbytes : (n + m) * bytes ≤ 140737488355328)
    (h : ∀ v' X d, (more w X d).ownsRow w.heap.size e size v' (n + m) (xs ++ news) → (v' = .slice none 0 0 ↔ v = .slice none 0 0 ∧ m = 0) → wpList P ops Q rest (a.put o.dst v') (more w X d)) : wpList P ops Q (o :: rest) a wa := by
  refine wpList_append_own wa hgd s x t ho w.heap.size e i z size bytes ht hi hz hsize hby hzs hsz v n xs hs hown ad m c news hx hl hnews h1 h63 hbytes hb.size ?_
  intro v' w' hown' hg hnn
  obtain ⟨X, d, rfl⟩ := Below.ext (Below.grown hb hg hb.size (fun k hk => (hown.lt k hk).1))
  exact h v' X d hown' hnn
end Go.Proofs.Ytpfmcobkfofbjaa
namespace Go.Proofs.Ytpfmcobkfofbjaa
open Go Go.RowKit
theorem wpList_append_any {P : Program} (w : World) {ops : Array Oper} {rest : List Oper} {o : Oper} {a : Act} {Q : Exit → Act → World → Prop} (hgd : o.guard = none) (s x : Operand) (t : TypeId)
    (ho : o.op = .call { callee := .builtin .append, args := #[s, x], argTypes := #[t, t] }) (base : Nat)
    (e : TypeId) (i : TypeInfo) (z : Value) (size bytes : Nat) (ht : P.underlying t = some (.slice e)) (hi : P.info? e = some i) (hz : i.zero = some z)
    (hsize : i.size = size) (hby : i.bytes = bytes) (hzs : z.cells.size = size) (hsz : 0 < size)
    (v : Value) (n : Nat) (xs : List Value) (hs : a.eval s = v) (hown : w.ownsRow base e size v n xs)
    (ad : Addr) (m c : Nat) (news : List Value) (hx : a.eval x = .slice (some ad) m c) (hl : news.length = m * size) (hnews : ∀ j u, news[j]? = some u → w.cell? (ad.add j) = some u) (h1 : ∀ u ∈ news, u.oneCell' = true)
    (h63 : n + m ≤ maxLen) (hbytes : (n + m) * bytes ≤ 140737488355328) (hbase : base ≤ w.heap.size)
    (h : ∀ v' w', w'.ownsRow base e size v' (n + m) (xs ++ news) → Below base w w' → wpList P ops Q rest (a.put o.dst v') w') : wpList P ops Q (o :: rest) a w := by
  refine wpList_append_own w hgd s x t ho base e i z size bytes ht hi hz hsize hby hzs hsz v n xs hs hown ad m c news hx hl hnews h1 h63 hbytes hbase ?_
  intro v' w' ho' hg hnil
  exact h v' w' ho' (Below.grown (Below.refl base w) hg hbase (fun k hk => (hown.lt k hk).1))
theorem info_IntA : (Try.prog.info? 3).map (fun i => (i.zero, i.size, i.bytes)) = some (some (.int .i64 0), 1, 8) := by kernel_rfl
theorem wpList_append_int (w : World) {ops : Array Oper} {rest : List Oper} {o : Oper} {a : Act} {Q : Exit → Act → World → Prop} (hgd : o.guard = none) (s x : Operand)
    (ho : o.op = .call { callee := .builtin .append, args := #[s, x], argTypes := #[57, 57] }) (base : Nat) (v : Value) (n : Nat) (xs : List Value) (hs : a.eval s = v) (hown : w.ownsRow base 3 1 v n xs)
    (ad : Addr) (c : Nat) (hx : a.eval x = .slice (some ad) 1 c) (y : Int) (hn : w.cell? ad = some (.int .i64 y)) (hl : n ≤ 1048576) (hbase : base ≤ w.heap.size)
    (hK : ∀ v' w', w'.ownsRow base 3 1 v' (n + 1) (xs ++ [.int .i64 y]) → Below base w w' → wpList Try.prog ops Q rest (a.put o.dst v') w') :
    wpList Try.prog ops Q (o :: rest) a w := by
  obtain ⟨i0, hi, hz0, hz1, hz2⟩ := info_parts info_IntA
  refine wpList_append_own w hgd s x 57 ho base 3 i0 _ 1 8 Try.underlying57 hi hz0 hz1 hz2 rfl (by decide) v n _ hs hown ad 1 c [.int .i64 y] hx rfl ?_ ?_ (by simp only [maxLen]; omega) (by omega) hbase ?_
  · intro j u hu
    match j, hu with
    | 0, hu =>
      obtain rfl : Value.int .i64 y = u := by simpa using hu
      simpa [Addr.add] using hn
    | j + 1, hu => simp at hu
  · intro u hu
    obtain rfl : u = Value.int .i64 y := by simpa using hu
    rfl
  intro v' w' ho' hg hnil
  exact hK v' w' ho' (Below.grown (Below.refl base w) hg hbase (fun k hk => (hown.lt k hk).1))
theorem own_kept {w w' : World} {base : Nat} {e : TypeId} {s : Nat} {v : Value} {n : Nat} {xs : List Value} (h : w.ownsRow base e s v n xs) (b : Below w.heap.size w w') : w'.ownsRow base e s v n xs := by
  obtain ⟨X, d, rfl⟩ := Below.ext b
  exact own_more h X d
theorem intsAt {ts : List Int} : ∀ i, i < ts.length → ∀ j, j < 1 → (ts.map (Value.int .i64))[i * 1 + j]? = (intAt ts i)[j]? := by
  intro i hi j hj
  obtain rfl : j = 0 := by omega
  rw [Nat.mul_one, Nat.add_zero]
  simp [intAt, hi]
theorem gives_ints {w w' : World} {base : Nat} {v : Value} {ts : List Int} (h : w'.ownsRow base 3 1 v ts.length (ts.map (Value.int .i64))) (hb : Below w.heap.size w w') (hbase : w.heap.size ≤ base) : Gives w 1 ts.length (intAt ts) (.returned v) w' := by
  obtain ⟨a, cap, rfl, ho⟩ := ow_of_ownsRow h intsAt
  exact ⟨a, cap, rfl, ho.wide hbase (Nat.le_refl _), hb⟩
end Go.Proofs.Ytpfmcobkfofbjaa
