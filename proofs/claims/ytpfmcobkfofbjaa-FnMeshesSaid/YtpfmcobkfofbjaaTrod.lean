/- What an argument that is a slice reads as, leaf by leaf. -/
import Derived.Test.YtpfmcobkfofbjaaSl
import Derived.ProofKit
import Derived.Deep.Slices
import Derived.OpenShut
namespace Go.Proofs.Ytpfmcobkfofbjaa
open Go Go.RowKit Go.ChangeShapes Go.WideShapes
/-- The type of the leaf in cell j of a value of type t. -/
def leafAt (P : Program) : Nat → TypeId → Nat → Option TypeId
  | 0, _, _ => none
  | d + 1, t, j =>
    match P.underlying t with
    | some (.struct fs) => (fs.toList.find? fun f => decide (f.offset ≤ j ∧ j < f.offset + P.cellsOf f.type)).bind fun f => leafAt P d f.type (j - f.offset)
    | some (.array n e) => if j / P.cellsOf e < n then leafAt P d e (j % P.cellsOf e) else none
    | some .bool => if j = 0 then some t else none
    | some (.int _) => if j = 0 then some t else none
    | some .string => if j = 0 then some t else none
    | some (.slice _) => if j = 0 then some t else none
    | _ => none
section
variable {H : Type} {enc : TypeId × Value → H} {P : Program} {w : World} {base : Nat} {spare : Nat → Bool} {held : Bool}
theorem trod_single {n : Nat} {t : TypeId} {cs : List Value} {x : DataW H × List MemPlace} (h : DataW.trod enc P w base spare held n t cs = some x)
    (ht : P.underlying t = some .bool ∨ (∃ k, P.underlying t = some (.int k)) ∨ P.underlying t = some .string ∨ ∃ e, P.underlying t = some (.slice e)) : ∃ v, cs = [v] := by
  cases n with
  | zero => simp [DataW.trod] at h
  | succ n =>
    unfold DataW.trod at h
    rcases ht with ht | ⟨k, ht⟩ | ht | ⟨e, ht⟩
    all_goals
      rw [ht] at h
      split at h <;> simp_all
theorem trod_leaf (d : Nat) : ∀ (n : Nat) (t : TypeId) (cs : List Value) (x : DataW H × List MemPlace) (j : Nat) (u : TypeId), DataW.trod enc P w base spare held n t cs = some x → leafAt P d t j = some u →
    ∃ v n' y, cs[j]? = some v ∧ DataW.trod enc P w base spare held n' u [v] = some y := by
  induction d with
  | zero => intro n t cs x j u _ hl; simp [leafAt] at hl
  | succ d ih =>
    intro n t cs x j u h hl
    have single : (P.underlying t = some .bool ∨ (∃ k, P.underlying t = some (.int k)) ∨ P.underlying t = some .string ∨ ∃ e, P.underlying t = some (.slice e)) → j = 0 → t = u → ∃ v n' y, cs[j]? = some v ∧ DataW.trod enc P w base spare held n' u [v] = some y := by
      intro ht hj hu
      obtain ⟨v, rfl⟩ := trod_single h ht
      subst hj hu
      exact ⟨v, n, x, rfl, h⟩
    unfold leafAt at hl
    split at hl
    · next fs hfs =>
      obtain ⟨f, hf, hl⟩ := Option.bind_eq_some_iff.1 hl
      have hp := List.find?_some hf
      have hmem := List.mem_of_find?_eq_some hf
      simp only [decide_eq_true_eq] at hp
      obtain ⟨i, hi⟩ := List.mem_iff_getElem?.1 hmem
      obtain ⟨xs, n', _, _, hlen, hxl, hg⟩ := DataW.trod_struct hfs h
      have hi' : fs[i]? = some f := by simpa using hi
      have h1 := hg i f hi'
      have hix : i < xs.length := by rw [hxl]; exact (Array.getElem?_eq_some_iff.1 hi').1
      rw [List.getElem?_eq_getElem hix] at h1
      obtain ⟨v, n'', y, hv, ht⟩ := ih _ _ _ _ _ _ h1 hl
      refine ⟨v, n'', y, ?_, ht⟩
      rw [List.getElem?_take] at hv
      split at hv
      · rw [List.getElem?_drop] at hv
        rw [← hv]; congr 1; omega
      · cases hv
    · next m e he =>
      split at hl
      · next hj =>
        obtain ⟨xs, n', _, _, hlen, hxl, hg⟩ := DataW.trod_array he h
        have h1 := hg _ hj
        rw [List.getElem?_eq_getElem (by rw [hxl]; exact hj)] at h1
        obtain ⟨v, n'', y, hv, ht⟩ := ih _ _ _ _ _ _ h1 hl
        refine ⟨v, n'', y, ?_, ht⟩
        rw [List.getElem?_take] at hv
        split at hv
        · rw [List.getElem?_drop] at hv
          rw [← hv, Nat.mul_comm, Nat.div_add_mod]
        · cases hv
      · cases hl
    · next he => split at hl; · next hj => exact single (.inl he) hj (Option.some.inj hl)
                 · cases hl
    · next k he => split at hl; · next hj => exact single (.inr (.inl ⟨k, he⟩)) hj (Option.some.inj hl)
                   · cases hl
    · next he => split at hl; · next hj => exact single (.inr (.inr (.inl he))) hj (Option.some.inj hl)
                 · cases hl
    · next e he => split at hl; · next hj => exact single (.inr (.inr (.inr ⟨e, he⟩))) hj (Option.some.inj hl)
                   · cases hl
    · cases hl
/-- A slice, read: each element's leaves. -/
theorem trod_recs_cap {t e : TypeId} {s d : Nat} {ts : List TypeId} (ht : P.underlying t = some (.slice e)) (hs : P.cellsOf e = s) (hs0 : 0 < s) (hts : ∀ j, j < s → leafAt P d e j = ts[j]?) (hl : ts.length = s) {fuel : Nat} {v : Value} {x : DataW H × List MemPlace}
    (h : DataW.trod enc P w base (fun _ => true) held fuel t [v] = some x) :
    ∃ a n cap, v = .slice a n cap ∧ n ≤ cap ∧ n ≤ maxLen ∧ (0 < n → ∃ b o, a = some ⟨b, o, none⟩ ∧ b < w.heap.size ∧
      ∀ i, i < n → ∀ j (hj : j < s), ∃ u n' y, w.cell? ⟨b, o + i * s + j, none⟩ = some u ∧ DataW.trod enc P w base (fun _ => true) held n' (ts[j]'(by omega)) [u] = some y) := by
  rcases Deep.open_slice ht h with ⟨hcs, _⟩ | ⟨a, len, cap, m, n, D, Pl, hcs, hb, hle, hm, hmm, _, hx⟩
  · obtain rfl : v = .slice none 0 0 := by simpa using hcs
    exact ⟨_, _, _, rfl, Nat.zero_le _, Nat.zero_le _, fun h => absurd h (Nat.lt_irrefl 0)⟩
  · obtain rfl : v = .slice (some a) len cap := by simpa using hcs
    refine ⟨_, _, _, rfl, hle, Nat.le_trans hle hm, fun h0 => ?_⟩
    obtain ⟨b, o, spot⟩ := a
    have hcell : ∀ i, i < len → ∀ j (hj : j < s), ∃ u n' y, w.cell? ((⟨b, o, spot⟩ : Addr).add (i * s + j)) = some u ∧ DataW.trod enc P w base (fun _ => true) held n' (ts[j]'(by omega)) [u] = some y := by
      intro i hi j hj
      have him : i < m := by rw [hmm]; simp; omega
      obtain ⟨cs', hc, ht'⟩ := hx i him
      rw [hs] at hc
      obtain ⟨_, hcl, hat⟩ := World.cells?_some hc
      obtain ⟨u, n', y, hu, hy⟩ := trod_leaf d _ _ _ _ j (ts[j]'(by omega)) ht' (by rw [hts j hj, List.getElem?_eq_getElem])
      refine ⟨u, n', y, ?_, hy⟩
      rw [← Go.Deep.add_add, hat j hj, hu]
    have hspot : spot = none := by
      obtain ⟨u, _, _, hu, _⟩ := hcell 0 h0 0 hs0
      simpa [Addr.add] using World.cell?_spot hu
    subst hspot
    refine ⟨b, o, rfl, ?_, fun i hi j hj => ?_⟩
    · obtain ⟨u, _, _, hu, _⟩ := hcell 0 h0 0 hs0
      have := World.block_lt_of_cell? w _ hu
      simpa [Addr.add] using this
    · obtain ⟨u, n', y, hu, hy⟩ := hcell i hi j hj
      have e1 : (⟨b, o, none⟩ : Addr).add (i * s + j) = ⟨b, o + i * s + j, none⟩ := by simp [Addr.add, Nat.add_assoc]
      rw [e1] at hu
      exact ⟨u, n', y, hu, hy⟩
theorem trod_recs {t e : TypeId} {s d : Nat} {ts : List TypeId} (ht : P.underlying t = some (.slice e)) (hs : P.cellsOf e = s) (hs0 : 0 < s) (hts : ∀ j, j < s → leafAt P d e j = ts[j]?) (hl : ts.length = s) {fuel : Nat} {v : Value} {x : DataW H × List MemPlace}
    (h : DataW.trod enc P w base (fun _ => true) held fuel t [v] = some x) :
    ∃ a n cap, v = .slice a n cap ∧ n ≤ maxLen ∧ (0 < n → ∃ b o, a = some ⟨b, o, none⟩ ∧ b < w.heap.size ∧
      ∀ i, i < n → ∀ j (hj : j < s), ∃ u n' y, w.cell? ⟨b, o + i * s + j, none⟩ = some u ∧ DataW.trod enc P w base (fun _ => true) held n' (ts[j]'(by omega)) [u] = some y) := by
  obtain ⟨a, n, cap, h1, _, h2⟩ := trod_recs_cap ht hs hs0 hts hl h
  exact ⟨a, n, cap, h1, h2⟩
end
/-- The number, the text, the slice in a cell. -/
def intC : Option Value → Int
  | some (.int _ n) => n
  | _ => 0
def strC : Option Value → ByteArray
  | some (.string s) => s
  | _ => ByteArray.empty
theorem cells_v {v : Value} {a : Option Addr} {n cap : Nat} (h : v = .slice a n cap) : v.cells.toList = [v] := by subst h; rfl
end Go.Proofs.Ytpfmcobkfofbjaa
