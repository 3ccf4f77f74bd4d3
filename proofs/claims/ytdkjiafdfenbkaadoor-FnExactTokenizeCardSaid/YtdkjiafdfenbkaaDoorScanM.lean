/- Tokens of a source, plainly. -/
import Derived.Test.YtdkjiafdfenbkaaDoorSToken
import Derived.Test.YtdkjiafdfenbkaaDoorIdent
namespace Go.Proofs.YtdkjiafdfenbkaaDoor
open Go Go.RowKit
set_option linter.unusedVariables false
def digB (c : Nat) : Bool := decide (48 ≤ c ∧ c ≤ 57)
def letB (c : Nat) : Bool := decide (97 ≤ c ∧ c ≤ 122)
def spB (c : Nat) : Bool := decide (c = 32 ∨ c = 10)
def symB (c : Nat) : Bool := [43, 45, 42, 47, 40, 41, 44, 61, 59].contains c
/-- The kind of a byte. -/
def kindN (c : Nat) : Nat := if spB c then 1 else if digB c then 2 else if letB c then 3 else if symB c then 4 else 0
theorem kind_sp {c : Nat} : kindN c = 1 ↔ spB c = true := by
  unfold kindN; split
  · next h => simp [h]
  · next h => simp only [h, Bool.false_eq_true, iff_false]; split <;> (try split) <;> (try split) <;> decide
theorem kind_dig {c : Nat} : kindN c = 2 ↔ digB c = true := by
  unfold kindN
  by_cases h1 : spB c = true
  · rw [if_pos h1]
    simp only [spB, decide_eq_true_eq] at h1
    simp only [digB, decide_eq_true_eq]
    omega
  · rw [if_neg h1]; split
    · next h => simp [h]
    · next h => simp only [h, Bool.false_eq_true, iff_false]; split <;> (try split) <;> decide
theorem kind_let {c : Nat} : kindN c = 3 ↔ letB c = true := by
  unfold kindN
  by_cases h1 : spB c = true
  · rw [if_pos h1]
    simp only [spB, decide_eq_true_eq] at h1
    simp only [letB, decide_eq_true_eq]
    omega
  · rw [if_neg h1]
    by_cases h2 : digB c = true
    · rw [if_pos h2]
      simp only [digB, decide_eq_true_eq] at h2
      simp only [letB, decide_eq_true_eq]
      omega
    · rw [if_neg h2]; split
      · next h => simp [h]
      · next h => simp only [h, Bool.false_eq_true, iff_false]; split <;> decide
/-- How many bytes from a place on satisfy a test. -/
def spanF (p : Nat → Bool) (t : ByteArray) (i : Nat) : Nat → Nat
  | 0 => 0
  | f + 1 => if p (byteAt t i) then 1 + spanF p t (i + 1) f else 0
def span (p : Nat → Bool) (t : ByteArray) (i : Nat) : Nat := spanF p t i (t.size - i)
theorem span_end {p : Nat → Bool} {t : ByteArray} {i : Nat} (h : t.size ≤ i) : span p t i = 0 := by
  unfold span; rw [show t.size - i = 0 by omega]; rfl
theorem span_no {p : Nat → Bool} {t : ByteArray} {i : Nat} (hp : p (byteAt t i) = false) : span p t i = 0 := by
  unfold span
  cases t.size - i with
  | zero => rfl
  | succ f => rw [spanF, hp]; rfl
theorem span_yes {p : Nat → Bool} {t : ByteArray} {i : Nat} (h : i < t.size) (hp : p (byteAt t i) = true) : span p t i = 1 + span p t (i + 1) := by
  unfold span
  rw [show t.size - i = (t.size - (i + 1)) + 1 by omega, spanF, hp]
  rfl
theorem spanF_le (p : Nat → Bool) (t : ByteArray) : ∀ f i, spanF p t i f ≤ f
  | 0, _ => Nat.le_refl _
  | f + 1, i => by
    rw [spanF]
    split
    · have := spanF_le p t f (i + 1); omega
    · omega
theorem span_le (p : Nat → Bool) (t : ByteArray) (i : Nat) : span p t i ≤ t.size - i := spanF_le p t _ i
theorem spanF_all (p : Nat → Bool) (t : ByteArray) : ∀ f i k, k < spanF p t i f → p (byteAt t (i + k)) = true
  | 0, i, k, h => by simp [spanF] at h
  | f + 1, i, k, h => by
    rw [spanF] at h
    split at h
    · next hp =>
      cases k with
      | zero => exact hp
      | succ k =>
        have := spanF_all p t f (i + 1) k (by omega)
        rw [show i + (k + 1) = i + 1 + k by omega]; exact this
    · omega
theorem span_all {p : Nat → Bool} {t : ByteArray} {i k : Nat} (h : k < span p t i) : p (byteAt t (i + k)) = true := spanF_all p t _ i k h
/-- What n digits from a place on spell. -/
def valN (t : ByteArray) (i : Nat) : Nat → Nat
  | 0 => 0
  | n + 1 => 10 * valN t i n + (byteAt t (i + n) - 48)
theorem valN_lt {t : ByteArray} {i : Nat} : ∀ {n : Nat}, (∀ k, k < n → digB (byteAt t (i + k)) = true) → valN t i n < 10 ^ n
  | 0, _ => Nat.one_pos
  | n + 1, h => by
    have h1 := valN_lt (t := t) (i := i) (n := n) (fun k hk => h k (by omega))
    have h2 := h n (by omega)
    simp only [digB, decide_eq_true_eq] at h2
    rw [valN, Nat.pow_succ]
    omega
theorem valN_bd {t : ByteArray} {i n m : Nat} (h : ∀ k, k < n → digB (byteAt t (i + k)) = true) (hn : n ≤ m) : valN t i n < 10 ^ m :=
  Nat.lt_of_lt_of_le (valN_lt h) (Nat.pow_le_pow_right (by decide) hn)
theorem byteAt_extract {t : ByteArray} {a b k : Nat} (h : a + k < b) (hb : b ≤ t.size) : byteAt (t.extract a b) k = byteAt t (a + k) := by
  have h1 : k < (t.extract a b).size := by rw [ByteArray.size_extract]; omega
  rw [← byteAt_eq h1, ← byteAt_eq (show a + k < t.size by omega)]
  congr 1
  exact ByteArray.getElem_extract h1
theorem valN_extract {t : ByteArray} {a n : Nat} (hb : a + n ≤ t.size) : ∀ k, k ≤ n → valN (t.extract a (a + n)) 0 k = valN t a k
  | 0, _ => rfl
  | k + 1, h => by
    rw [valN, valN, valN_extract hb k (by omega), Nat.zero_add, byteAt_extract (by omega) hb]
/-- The number at a place: its end and its value. -/
def numS (t : ByteArray) (at' : Nat) : Option (Nat × Nat) :=
  if 4 < span digB t at' then none
  else if at' + span digB t at' < t.size ∧ byteAt t (at' + span digB t at') = 46 then
    (if span digB t (at' + span digB t at' + 1) < 1 ∨ 4 < span digB t (at' + span digB t at' + 1) then none
     else some (at' + span digB t at' + 1 + span digB t (at' + span digB t at' + 1), valN t at' (span digB t at') * 256 + valN t (at' + span digB t at' + 1) (span digB t (at' + span digB t at' + 1)) * 256 / 10 ^ span digB t (at' + span digB t at' + 1)))
  else some (at' + span digB t at', valN t at' (span digB t at') * 256)
def alnB (c : Nat) : Bool := letB c || digB c
/-- The token at a place. -/
def scanT (t : ByteArray) (at' : Nat) : Option TokenD :=
  if digB (byteAt t at') then (match numS t at' with | some (e, v) => some ⟨1, t.extract at' e, v, at'⟩ | none => none)
  else if letB (byteAt t at') then (if 8 < span alnB t at' then none else some ⟨2, t.extract at' (at' + span alnB t at'), 0, at'⟩)
  else if symB (byteAt t at') then some ⟨3, t.extract at' (at' + 1), 0, at'⟩
  else none
theorem numS_bd {t : ByteArray} {a e v : Nat} (ha : a ≤ t.size) (h : numS t a = some (e, v)) : a + span digB t a ≤ e ∧ e ≤ t.size := by
  have h1 := span_le digB t a
  have h2 := span_le digB t (a + span digB t a + 1)
  unfold numS at h
  split at h
  · cases h
  · split at h
    · split at h
      · cases h
      · next hh hc _ =>
        simp only [Option.some.injEq, Prod.mk.injEq] at h
        have := hc.1
        omega
    · simp only [Option.some.injEq, Prod.mk.injEq] at h
      omega
theorem scanT_size {t : ByteArray} {a : Nat} {k : TokenD} (ha : a < t.size) (h : scanT t a = some k) : 1 ≤ k.f1.size ∧ a + k.f1.size ≤ t.size := by
  unfold scanT at h
  split at h
  · next hd =>
    split at h
    · next e v hn =>
      cases h
      have h1 := numS_bd (by omega) hn
      have h2 := span_yes (p := digB) ha hd
      simp only [ByteArray.size_extract]
      omega
    · cases h
  · split at h
    · next hl =>
      split at h
      · cases h
      · cases h
        have h2 := span_yes (p := alnB) ha (by simp [alnB, hl])
        have h3 := span_le alnB t a
        simp only [ByteArray.size_extract]
        omega
    · split at h
      · cases h
        simp only [ByteArray.size_extract]
        omega
      · cases h
/-- Tokens put ahead. -/
def appT (L : List TokenD) : Except Nat (List TokenD) → Except Nat (List TokenD)
  | .ok M => .ok (L ++ M)
  | .error j => .error j
theorem appT_nil (x : Except Nat (List TokenD)) : appT [] x = x := by cases x <;> rfl
theorem appT_app (L M : List TokenD) (x : Except Nat (List TokenD)) : appT L (appT M x) = appT (L ++ M) x := by cases x <;> simp [appT]
/-- The tokens from a place on. -/
def toksF (t : ByteArray) : Nat → Nat → Except Nat (List TokenD)
  | 0, _ => .ok [⟨0, ByteArray.empty, 0, t.size⟩]
  | f + 1, a => if a < t.size then (if spB (byteAt t a) then toksF t f (a + 1) else match scanT t a with | some k => appT [k] (toksF t f (a + k.f1.size)) | none => .error a) else .ok [⟨0, ByteArray.empty, 0, t.size⟩]
theorem toksF_end {t : ByteArray} {f a : Nat} (h : ¬ a < t.size) : toksF t f a = .ok [⟨0, ByteArray.empty, 0, t.size⟩] := by
  cases f with
  | zero => rfl
  | succ f => rw [toksF, if_neg h]
theorem toksF_len {t : ByteArray} : ∀ {f a : Nat} {L : List TokenD}, toksF t f a = .ok L → L.length ≤ f + 1
  | 0, a, L, h => by rw [toksF] at h; cases h; simp
  | f + 1, a, L, h => by
    rw [toksF] at h
    split at h
    · split at h
      · have := toksF_len h; omega
      · split at h
        · next k _ =>
          cases hx : toksF t f (a + k.f1.size) with
          | error j => rw [hx] at h; cases h
          | ok M =>
            rw [hx] at h
            have := toksF_len hx
            cases h
            simp
            omega
        · cases h
    · cases h; simp
/-- The tokens of a source, or the place of the first that is malformed. -/
def tokR (t : ByteArray) : Except Nat (List TokenD) := if 2000 < t.size then .error 0 else toksF t t.size 0
def resL : Except Nat (List TokenD) → List TokenD
  | .ok L => L
  | .error _ => []
def resZ : Except Nat (List TokenD) → Int
  | .ok _ => -1
  | .error j => j
theorem resL_len (t : ByteArray) : (resL (tokR t)).length ≤ 2001 := by
  unfold tokR
  split
  · exact Nat.zero_le _
  · cases h : toksF t t.size 0 with
    | error j => exact Nat.zero_le _
    | ok L =>
      have := toksF_len h
      show L.length ≤ 2001
      omega
/-- What the scan has come to: the tokens so far, the place. -/
def Run (t : ByteArray) (L : List TokenD) (a : Nat) : Prop := a ≤ t.size ∧ ∃ f, t.size - a ≤ f ∧ tokR t = appT L (toksF t f a)
theorem Run.start {t : ByteArray} (h : t.size ≤ 2000) : Run t [] 0 := ⟨Nat.zero_le _, t.size, by omega, by unfold tokR; rw [if_neg (by omega), appT_nil]⟩
theorem Run.space {t : ByteArray} {L : List TokenD} {a : Nat} (h : Run t L a) (ha : a < t.size) (hs : spB (byteAt t a) = true) : Run t L (a + 1) := by
  obtain ⟨_, f, hf, he⟩ := h
  obtain ⟨f, rfl⟩ : ∃ g, f = g + 1 := ⟨f - 1, by omega⟩
  rw [toksF, if_pos ha, if_pos hs] at he
  exact ⟨ha, f, by omega, he⟩
theorem Run.token {t : ByteArray} {L : List TokenD} {a : Nat} {k : TokenD} (h : Run t L a) (ha : a < t.size) (hs : ¬ spB (byteAt t a) = true) (hk : scanT t a = some k) : Run t (L ++ [k]) (a + k.f1.size) := by
  obtain ⟨_, f, hf, he⟩ := h
  obtain ⟨h1, h2⟩ := scanT_size ha hk
  obtain ⟨f, rfl⟩ : ∃ g, f = g + 1 := ⟨f - 1, by omega⟩
  rw [toksF, if_pos ha, if_neg hs, hk] at he
  refine ⟨h2, f, by omega, ?_⟩
  rw [he]
  exact appT_app _ _ _
theorem Run.bad {t : ByteArray} {L : List TokenD} {a : Nat} (h : Run t L a) (ha : a < t.size) (hs : ¬ spB (byteAt t a) = true) (hk : scanT t a = none) : tokR t = .error a := by
  obtain ⟨_, f, hf, he⟩ := h
  obtain ⟨f, rfl⟩ : ∃ g, f = g + 1 := ⟨f - 1, by omega⟩
  rw [toksF, if_pos ha, if_neg hs, hk] at he
  exact he
theorem Run.done {t : ByteArray} {L : List TokenD} {a : Nat} (h : Run t L a) (ha : ¬ a < t.size) : tokR t = .ok (L ++ [⟨0, ByteArray.empty, 0, t.size⟩]) := by
  obtain ⟨_, f, hf, he⟩ := h
  rw [toksF_end ha] at he
  exact he
end Go.Proofs.YtdkjiafdfenbkaaDoor
