/- Parsing of integers, plainly. -/
import Derived.Test.YtdkjiafdfenbkaaDoorFmtInts
import Derived.Lib.AtoiAll
namespace Go.Proofs.YtdkjiafdfenbkaaDoor
open Go Go.RowKit
set_option linter.unusedVariables false
def IsDig (c : UInt8) : Prop := 48 ≤ c.toNat ∧ c.toNat ≤ 57
/-- What digits spell. -/
def valL (acc : Nat) : List UInt8 → Nat
  | [] => acc
  | c :: r => valL (acc * 10 + (c.toNat - 48)) r
theorem valL_append (l r : List UInt8) : ∀ acc, valL acc (l ++ r) = valL (valL acc l) r := by
  induction l with
  | nil => intro acc; rfl
  | cons c l ih => intro acc; exact ih _
theorem valL_mono (l : List UInt8) : ∀ acc, acc ≤ valL acc l := by
  induction l with
  | nil => intro acc; exact Nat.le_refl _
  | cons c l ih => intro acc; exact Nat.le_trans (show acc ≤ acc * 10 + (c.toNat - 48) by omega) (ih _)
theorem dig_of {i : Nat} (h : i < 10) : (UInt8.ofNat (48 + i)).toNat = 48 + i := by
  have e : (UInt8.ofNat (48 + i)).toNat = (48 + i) % 256 := rfl
  rw [e]; omega
theorem digs_dec (u : Nat) : (∀ c ∈ Lib.decDigits u, IsDig c) ∧ valL 0 (Lib.decDigits u) = u := by
  induction u using Nat.strongRecOn with
  | _ u ih =>
    by_cases h : u < 10
    · rw [digit_small h]
      refine ⟨fun c hc => ?_, ?_⟩
      · obtain rfl := List.mem_singleton.1 hc
        show 48 ≤ (UInt8.ofNat (48 + u)).toNat ∧ (UInt8.ofNat (48 + u)).toNat ≤ 57
        rw [dig_of h]; omega
      · show 0 * 10 + ((UInt8.ofNat (48 + u)).toNat - 48) = u
        rw [dig_of h]; omega
    · obtain ⟨h1, h2⟩ := ih (u / 10) (by omega)
      rw [digit_big h]
      refine ⟨fun c hc => ?_, ?_⟩
      · rcases List.mem_append.1 hc with hc | hc
        · exact h1 c hc
        · obtain rfl := List.mem_singleton.1 hc
          show 48 ≤ (UInt8.ofNat (48 + u % 10)).toNat ∧ (UInt8.ofNat (48 + u % 10)).toNat ≤ 57
          rw [dig_of (show u % 10 < 10 by omega)]; omega
      · rw [valL_append, h2]
        show u / 10 * 10 + ((UInt8.ofNat (48 + u % 10)).toNat - 48) = u
        rw [dig_of (show u % 10 < 10 by omega)]
        omega
theorem parse_digs (l : List UInt8) : ∀ acc, (∀ c ∈ l, IsDig c) → valL acc l < 18446744073709551616 → Lib.parseUint10 acc l = .ok (valL acc l) := by
  induction l with
  | nil => intro acc _ _; rfl
  | cons c r ih =>
    intro acc hd hv
    obtain ⟨h1, h2⟩ := hd c (by simp)
    have hv' : valL (acc * 10 + (c.toNat - 48)) r < 18446744073709551616 := hv
    have hm := valL_mono r (acc * 10 + (c.toNat - 48))
    show Lib.parseUint10 acc (c :: r) = .ok (valL (acc * 10 + (c.toNat - 48)) r)
    generalize hx : valL (acc * 10 + (c.toNat - 48)) r = x at *
    have k1 : ¬ 1844674407370955162 ≤ acc := by omega
    have k2 : ¬ 18446744073709551616 ≤ acc * 10 + (c.toNat - 48) := by omega
    rw [Lib.parseUint10, if_pos ⟨h1, h2⟩, if_neg k1, if_neg k2, ← hx]
    exact ih _ (fun c hc => hd c (List.mem_cons_of_mem _ hc)) (by rw [hx]; exact hv')
theorem dec_cons (u : Nat) : ∃ c r, Lib.decDigits u = c :: r := by
  have := Lib.nDigits_pos u
  rw [← decDigits_len] at this
  cases h : Lib.decDigits u with
  | nil => rw [h] at this; simp at this
  | cons c r => exact ⟨c, r, rfl⟩
theorem mag_dec {u : Nat} (hu : u < 18446744073709551616) : Lib.parseMag (Lib.decDigits u) = .ok u := by
  obtain ⟨h1, h2⟩ := digs_dec u
  have hp := parse_digs (Lib.decDigits u) 0 h1 (by rw [h2]; exact hu)
  rw [h2] at hp
  unfold Lib.parseMag
  obtain ⟨c, r, h⟩ := dec_cons u
  rw [if_neg (by rw [h]; simp)]
  exact hp
/-- What is written is read. -/
theorem atoi_itoa {n : Int} (hn : fmtOk n = true) : Lib.atoiAll (Lib.itoa n) = .ok n := by
  rw [fmtOk_true] at hn
  unfold Lib.itoa
  split
  · next h =>
    simp only [Lib.atoiAll]
    rw [if_pos (.inr (by decide)), mag_dec (by omega)]
    simp only []
    rw [if_neg (fun q => q.1 (by decide)), if_neg (fun q => by omega), if_pos (by decide)]
    congr 1; omega
  · next h =>
    have hm := mag_dec (u := n.toNat) (by omega)
    obtain ⟨c, r, hc⟩ := dec_cons n.toNat
    have hd := (digs_dec n.toNat).1 c (by rw [hc]; simp)
    rw [hc] at hm ⊢
    unfold IsDig at hd
    simp only [Lib.atoiAll]
    rw [if_neg (by omega), hm]
    simp only []
    rw [if_neg (fun q => by omega), if_neg (fun q => by omega), if_neg (by omega)]
    congr 1; omega
theorem fmtB_data {n : Int} (hn : fmtOk n = true) : (fmtB n).data.toList = Lib.itoa n := by unfold fmtB; rw [hn]; rfl
/-- What a text says: a number, or none. -/
def parseI (t : ByteArray) : Option Int :=
  match Lib.atoiAll t.data.toList with
  | .ok v => if fmtOk v = true ∧ fmtB v = t then some v else none
  | _ => none
theorem parseI_some {n : Int} (hn : fmtOk n = true) : parseI (fmtB n) = some n := by
  unfold parseI
  rw [fmtB_data hn, atoi_itoa hn]
  simp [hn]
theorem parseI_of {t : ByteArray} {n : Int} (h : parseI t = some n) : fmtOk n = true ∧ fmtB n = t := by
  unfold parseI at h
  split at h
  · split at h
    · next hh => cases h; exact hh
    · cases h
  · cases h
theorem parseI_none {t : ByteArray} (h : ∀ n, fmtOk n = true → fmtB n ≠ t) : parseI t = none := by
  cases hp : parseI t with
  | none => rfl
  | some n => obtain ⟨h1, h2⟩ := parseI_of hp; exact absurd h2 (h n h1)
/-- A text that is no numeral's: it has a byte that is no digit behind its sign, or is too long. -/
theorem itoa_form {n : Int} (hn : fmtOk n = true) : (Lib.itoa n).length ≤ 11 ∧ ((∃ r, Lib.itoa n = 45 :: r ∧ (∀ c ∈ r, IsDig c) ∧ n = -(valL 0 r : Int)) ∨ ((∀ c ∈ Lib.itoa n, IsDig c) ∧ n = (valL 0 (Lib.itoa n) : Int))) := by
  refine ⟨(itoa_len hn).1, ?_⟩
  unfold Lib.itoa
  split
  · exact .inl ⟨_, rfl, (digs_dec _).1, by rw [(digs_dec _).2]; omega⟩
  · exact .inr ⟨(digs_dec _).1, by rw [(digs_dec _).2]; omega⟩
end Go.Proofs.YtdkjiafdfenbkaaDoor
