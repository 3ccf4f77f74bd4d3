/- Contracts of ParseInts. -/
import Derived.Test.YtdkjiafdfenbkaaDoorSplitAny
import Derived.Test.YtdkjiafdfenbkaaDoorApp3
import Derived.Test.YtdkjiafdfenbkaaDoorAppInt
namespace Go.Proofs.YtdkjiafdfenbkaaDoor
open Go Go.RowKit
set_option linter.unusedVariables false
/-- All parts' numbers, if all are numbers. -/
def allI : List ByteArray → Option (List Int)
  | [] => some []
  | p :: r => match parseI p, allI r with
    | some m, some ms => some (m :: ms)
    | _, _ => none
theorem allI_bad {p : ByteArray} (hp : parseI p = none) (r : List ByteArray) : ∀ l, allI (l ++ p :: r) = none
  | [] => by show (match parseI p, allI r with | some m, some ms => some (m :: ms) | _, _ => none) = none; rw [hp]
  | q :: l => by
    show (match parseI q, allI (l ++ p :: r) with | some m, some ms => some (m :: ms) | _, _ => none) = none
    rw [allI_bad hp r l]
    cases parseI q <;> rfl
theorem allI_snoc {p : ByteArray} {m : Int} (hp : parseI p = some m) : ∀ {l : List ByteArray} {ms : List Int}, allI l = some ms → allI (l ++ [p]) = some (ms ++ [m])
  | [], ms, h => by
    obtain rfl : [] = ms := by simpa [allI] using h
    simp [allI, hp]
  | q :: l, ms, h => by
    have h' : (match parseI q, allI l with | some m, some ms => some (m :: ms) | _, _ => none) = some ms := h
    show (match parseI q, allI (l ++ [p]) with | some m, some ms => some (m :: ms) | _, _ => none) = _
    cases hq : parseI q with
    | none => rw [hq] at h'; simp at h'
    | some y =>
      cases hl : allI l with
      | none => rw [hq, hl] at h'; simp at h'
      | some ys =>
        rw [hq, hl] at h'
        obtain rfl : y :: ys = ms := by simpa using h'
        rw [allI_snoc hp hl]
        rfl
theorem allI_len : ∀ {l : List ByteArray} {ms : List Int}, allI l = some ms → ms.length = l.length
  | [], ms, h => by
    obtain rfl : [] = ms := by simpa [allI] using h
    rfl
  | q :: l, ms, h => by
    have h' : (match parseI q, allI l with | some m, some ms => some (m :: ms) | _, _ => none) = some ms := h
    cases hq : parseI q with
    | none => rw [hq] at h'; simp at h'
    | some y =>
      cases hl : allI l with
      | none => rw [hq, hl] at h'; simp at h'
      | some ys =>
        rw [hq, hl] at h'
        obtain rfl : y :: ys = ms := by simpa using h'
        simp [allI_len hl]
open Classical in
noncomputable def parseIs (t : ByteArray) : Option (List Int) := if t = ⟨#[45]⟩ then some [] else allI (parts t)
/-- Two results: the integers (own), and whether all is well. -/
def GivesI (w : World) (o : Option (List Int)) (e : Ending) (w' : World) : Prop :=
  ∃ a cap, e = .returned (.tuple #[.slice a (o.getD []).length cap, .bool o.isSome]) ∧ Ow w' w.heap.size w'.heap.size a 1 (o.getD []).length (intAt (o.getD [])) ∧ Below w.heap.size w w'
theorem extract_size (t : ByteArray) (a b : Nat) : (t.extract a b).size ≤ t.size := by
  rw [ByteArray.size_extract]; omega
theorem splitSt_small {t : ByteArray} : ∀ k, ∀ p ∈ (splitSt t k).1, p.size ≤ t.size
  | 0, p, h => by simp [splitSt] at h
  | k + 1, p, h => by
    unfold splitSt at h
    split at h
    · rcases List.mem_append.1 h with h | h
      · exact splitSt_small k p h
      · obtain rfl := List.mem_singleton.1 h
        exact extract_size _ _ _
    · exact splitSt_small k p h
theorem parts_small {t : ByteArray} : ∀ p ∈ parts t, p.size ≤ t.size := by
  intro p h
  rcases List.mem_append.1 h with h | h
  · exact splitSt_small _ p h
  · obtain rfl := List.mem_singleton.1 h
    exact extract_size _ _ _
/-- The numbers so far (own row), the parts (aside). -/
def IntsR (w : World) (lo hi : Nat) (sa : Option Addr) (P : List ByteArray) (k : Nat) (ns : List Int) (out : Value) (wr : World) : Prop :=
  allI (P.take k) = some ns ∧ Below w.heap.size w wr ∧ wr.ownsRow w.heap.size 3 1 out k (ns.map (Value.int .i64)) ∧ Aside lo hi P.length sa (stringAt P) out wr
theorem IntsR.below {w : World} {lo hi : Nat} {sa : Option Addr} {P : List ByteArray} {k : Nat} {ns : List Int} {out : Value} {wr w' : World} (h : IntsR w lo hi sa P k ns out wr) (hb : Below wr.heap.size wr w') : IntsR w lo hi sa P k ns out w' :=
  ⟨h.1, h.2.1.trans (Below.mono hb h.2.1.size), own_kept h.2.2.1 hb, h.2.2.2.below hb⟩
theorem wp_app_ints {w : World} {lo hi : Nat} {sa : Option Addr} {P : List ByteArray} {k : Nat} {ns : List Int} {out : Value} {wr : World} (h : IntsR w lo hi sa P k ns out wr) {p : ByteArray} {m : Int} (hk : k < P.length) (hpk : P.getD k ByteArray.empty = p) (hp : parseI p = some m) (hl : k ≤ 1048576)
    {ops : Array Oper} {rest : List Oper} {o : Oper} {a : Act} {Q : Exit → Act → World → Prop} (hgd : o.guard = none) (s x : Operand)
    (ho : o.op = .call { callee := .builtin .append, args := #[s, x], argTypes := #[68, 68] }) (hs : a.eval s = out)
    (ad : Addr) (c : Nat) (hx : a.eval x = .slice (some ad) 1 c) (hn : wr.cell? ad = some (.int .i64 m))
    (hK : ∀ v' w', IntsR w lo hi sa P (k + 1) (ns ++ [m]) v' w' → wpList Tryd.prog ops Q rest (a.put o.dst v') w') :
    wpList Tryd.prog ops Q (o :: rest) a wr := by
  obtain ⟨i0, hi, hz0, hz1, hz2⟩ := info_parts info_IntA
  refine wpList_append_own_at wr hgd s x 68 ho w.heap.size 3 i0 _ 1 8 Tryd.underlying68 hi hz0 hz1 hz2 rfl (by decide) out k _ hs h.2.2.1 ad 1 c [.int .i64 m] hx rfl ?_ ?_ (by simp only [maxLen]; omega) (by omega) h.2.1.size ?_
  · intro j u hu
    match j, hu with
    | 0, hu =>
      obtain rfl : Value.int .i64 m = u := by simpa using hu
      simpa [Addr.add] using hn
    | j + 1, hu => simp at hu
  · intro u hu
    obtain rfl : u = Value.int .i64 m := by simpa using hu
    rfl
  intro v' w' ho' hg hnil hb'
  refine hK v' w' ⟨?_, h.2.1.grown hg h.2.1.size (fun k hk => (h.2.2.1.lt k hk).1), by simpa using ho', h.2.2.2.grown hg hb'⟩
  rw [List.take_succ_eq_append_getElem hk]
  refine allI_snoc ?_ h.1
  rw [← hp, ← hpk, List.getD_eq_getElem?_getD, List.getElem?_eq_getElem hk]
  rfl
end Go.Proofs.YtdkjiafdfenbkaaDoor
