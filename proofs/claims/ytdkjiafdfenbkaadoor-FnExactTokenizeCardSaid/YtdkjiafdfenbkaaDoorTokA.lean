/- Rows of tokens that an append grows. -/
import Derived.Test.YtdkjiafdfenbkaaDoorScanM
import Derived.Test.YtdkjiafdfenbkaaDoorAppend
namespace Go.Proofs.YtdkjiafdfenbkaaDoor
open Go Go.RowKit
set_option linter.unusedVariables false
/-- The cells of the tokens so far. -/
def tokC (L : List TokenD) : List Value := flat 4 L.length (TokenD.at L)
theorem tokC_snoc (L : List TokenD) (k : TokenD) : tokC (L ++ [k]) = tokC L ++ k.cells := by
  unfold tokC
  rw [List.length_append, List.length_singleton, flat_succ]
  congr 1
  · refine flat_congr (fun i hi => ?_)
    unfold TokenD.at
    rw [List.getD_eq_getElem?_getD, List.getD_eq_getElem?_getD, List.getElem?_append_left hi]
  · unfold TokenD.at
    rw [List.getD_eq_getElem?_getD, List.getElem?_append_right (Nat.le_refl _)]
    simp
theorem tokC_get {L : List TokenD} : ∀ i, i < L.length → ∀ j, j < 4 → (tokC L)[i * 4 + j]? = (TokenD.at L i)[j]? := flat_get (fun i _ => TokenD.at_len L i)
theorem wp_app_tok {w : World} {L : List TokenD} {out : Value} {wr : World} (hb : Below w.heap.size w wr) (h : wr.ownsRow w.heap.size 87 4 out L.length (tokC L)) (k : TokenD) (hl : L.length ≤ 1048576)
    {ops : Array Oper} {rest : List Oper} {o : Oper} {a : Act} {Q : Exit → Act → World → Prop} (hgd : o.guard = none) (s x : Operand)
    (ho : o.op = .call { callee := .builtin .append, args := #[s, x], argTypes := #[49, 49] }) (hs : a.eval s = out)
    (g c : Nat) (hx : a.eval x = .slice (some ⟨g, 0, none⟩) 1 c) (hn : wr.heap[g]? = some (.cells ⟨k.cells⟩ 87 (0, 0)))
    (hK : ∀ v' w' L', Hid (L' = L ++ [k]) → Below w.heap.size w w' → w'.ownsRow w.heap.size 87 4 v' L'.length (tokC L') → (∀ b j u, (∀ q, out.ownBlock = some q → b ≠ q) → wr.cell? ⟨b, j, none⟩ = some u → w'.cell? ⟨b, j, none⟩ = some u) → wpList Tryd.prog ops Q rest (a.put o.dst v') w') :
    wpList Tryd.prog ops Q (o :: rest) a wr := by
  obtain ⟨i0, hi, hz0, hz1, hz2⟩ := info_parts info_Token
  refine wpList_append_own_at wr hgd s x 49 ho w.heap.size 87 i0 _ 4 40 Tryd.underlying49 hi hz0 hz1 hz2 rfl (by decide) out L.length _ hs h ⟨g, 0, none⟩ 1 c k.cells hx rfl ?_ ?_ (by simp only [maxLen]; omega) (by omega) hb.size ?_
  · intro j u hu
    rw [show (⟨g, 0, none⟩ : Addr).add j = ⟨g, j, none⟩ by (simp [Addr.add]; try omega), cell_of_row _ _ j _ _ (0, 0) hn]
    simpa using hu
  · intro u hu
    simp only [List.mem_cons, List.not_mem_nil, or_false] at hu
    rcases hu with rfl | rfl | rfl | rfl <;> rfl
  intro v' w' ho' hg hnil hb'
  refine hK v' w' _ (Lib.hid rfl) (hb.grown hg hb.size (fun k hk => (h.lt k hk).1)) (by rw [tokC_snoc, List.length_append]; exact ho') (fun b j u hbq hc => ?_)
  have hlt := World.block_lt_of_cell? _ _ hc
  rw [World.cell?_of_block (w := wr) (a := ⟨b, j, none⟩) (hg.block b hlt (fun e => hbq b e.symm rfl))]
  exact hc
end Go.Proofs.YtdkjiafdfenbkaaDoor
