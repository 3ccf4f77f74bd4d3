/- append onto an own row, in a world with more blocks behind an old one. -/
import Derived.Test.YtpfmcobkfofbjaaGreatBase
import Derived.Laws.AppendOwn
import Derived.OwnWalk
namespace Go.Proofs.YtpfmcobkfofbjaaGreat
open Go Go.RowKit
theorem own_more {w : World} {base : Nat} {e : TypeId} {s : Nat} {v : Value} {n : Nat} {xs : List Value} (h : w.ownsRow base e s v n xs) (X : Array Obj) (d : Nat) : (more w X d).ownsRow base e s v n xs := by
  refine ⟨h.1, h.2.imp id ?_⟩
  rintro ⟨g, cap, cur, hv, hb, hg, r⟩
  exact ⟨g, cap, cur, hv, hb, by rw [heap_more g (Array.getElem?_eq_some_iff.1 hg).1]; exact hg, r⟩
theorem Below.grown {B : Nat} {a b c : World} {row : Option Nat} (h : Below B a b) (hg : b.grownBy c row) (hB : B ≤ b.heap.size) (hr : ∀ k, row = some k → B ≤ k) : Below B a c :=
  h.trans ⟨hg.os, hg.tape, hg.output, hg.size, fun k hk => hg.block k (Nat.lt_of_lt_of_le hk hB) (fun e => by have := hr k e.symm; omega)⟩
theorem wpList_append_more {P : Program} (w : World) {wa : World} (hb : Below w.heap.size w wa) {ops : Array Oper} {rest : List Oper} {o : Oper} {a : Act} {Q : Exit → Act → World → Prop} (hgd : o.guard = none) (s x : Operand) (t : TypeId)
    (ho : o.op = .call { callee := .builtin .append, args := #[s, x], argTypes := #[t, t] })
    (e : TypeId) (i : TypeInfo) (z : Value) (size bytes : Nat) (ht : P.underlying t = some (.slice e)) (hi : P.info? e = some i) (hz : i.zero = some z)
    (hsize : i.size = size) (hby : i.bytes = bytes) (hzs : z.cells.size = size) (hsz : 0 < size)
    (v : Value) (n : Nat) (xs : List Value) (hs : a.eval s = v) (hown : wa.ownsRow w.heap.size e size v n xs)
    (ad : Addr) (m c : Nat) (news : List Value) (hx : a.eval x = .slice (some ad) m c) (hl : news.length = m * size) (hnews : ∀ j u, news[j]? = some u → wa.cell? (ad.add j) = some u) (h1 : ∀ u ∈ news, u.oneCell' = true)
    (h63 : n + m ≤ maxLen) (hbytes : (n + m) * bytes ≤ 140737488355328)
    (h : ∀ v' X d, (more w X d).ownsRow w.heap.size e size v' (n + m) (xs ++ news) → (v' = .slice none 0 0 ↔ v = .slice none 0 0 ∧ m = 0) → wpList P ops Q rest (a.put o.dst v') (more w X d)) : wpList P ops Q (o :: rest) a wa := by
  refine wpList_append_own wa hgd s x t ho w.heap.size e i z size bytes ht hi hz hsize hby hzs hsz v n xs hs hown ad m c news hx hl hnews h1 h63 hbytes hb.size ?_
  intro v' w' hown' hg hnn
  obtain ⟨X, d, rfl⟩ := Below.ext (Below.grown hb hg hb.size (fun k hk => (hown.lt k hk).1))
  exact h v' X d hown' hnn
end Go.Proofs.YtpfmcobkfofbjaaGreat
