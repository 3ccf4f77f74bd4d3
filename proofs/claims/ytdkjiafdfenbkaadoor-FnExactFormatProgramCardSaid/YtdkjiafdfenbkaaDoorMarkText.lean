/- Contract of markText. -/
import Derived.Test.YtdkjiafdfenbkaaDoorMark
import Derived.Laws.IdiomStrings
namespace Go.Proofs.YtdkjiafdfenbkaaDoor
open Go.RowKit
def mloop : Nat → Nat → ByteArray → ByteArray
  | 0, _, s => s
  | f + 1, n, s => if n = 0 then s else mloop f (n / 10) (⟨#[48 + UInt8.ofNat (n % 10)]⟩ ++ s)
def mtext (n : Nat) : ByteArray := if n = 0 then ⟨#[109, 48]⟩ else ⟨#[109]⟩ ++ mloop n n ByteArray.empty
theorem mloop_step {f n : Nat} {s : ByteArray} (h : n ≠ 0) : mloop (f + 1) n s = mloop f (n / 10) (⟨#[48 + UInt8.ofNat (n % 10)]⟩ ++ s) := by rw [mloop, if_neg h]
theorem mloop_zero {f : Nat} {s : ByteArray} : mloop f 0 s = s := by cases f <;> rfl
theorem digit_back (w : World) (X : Array Obj) (d m : Nat) : Sem.run Tryd.prog (convert 38 9 (.slice (some ⟨w.heap.size + X.size, 0, none⟩) 1 1)) ((more w X d).alloc (.cells #[.int .u8 (48 + (m : Int) % 10)] 5)) =
    .ok (.string ⟨#[UInt8.ofNat (48 + m % 10)]⟩) ((more w X d).alloc (.cells #[.int .u8 (48 + (m : Int) % 10)] 5)) := by
  have e : ((UInt8.ofNat (48 + m % 10)).toNat : Int) = 48 + (m : Int) % 10 := by
    rw [UInt8.toNat_ofNat', Nat.mod_eq_of_lt (by omega)]; omega
  refine run_convert_bytes_back _ 38 9 5 ⟨w.heap.size + X.size, 0, none⟩ 1 [UInt8.ofNat (48 + m % 10)] (by kernel_rfl) (by kernel_rfl) (by kernel_rfl) ?_
  intro j hj
  obtain rfl : j = 0 := by simpa using hj
  simp only [List.getElem_cons_zero]
  rw [e]
  simp [go_sem]
set_option maxRecDepth 100000 in
theorem markText_c (n : Nat) (hn : n ≤ 1000000000000000) (w : World) :
    Calls Tryd.prog 62 #[.int .i64 (n : Int)] w fun e w' => e = .returned (.string (mtext n)) ∧ Below w.heap.size w w' := by
  by_cases h0 : n = 0
  · subst h0
    go_enter Tryd.func62, Tryd.ntmps62
    go_wp2
    go_ret
    exact ⟨rfl, (by repeat (first | exact Below.refl _ _ | refine Below.drew ?_ | refine Below.alloc ?_ (by first | exact Nat.le_refl _ | (simp; done) | (simp; omega) | omega) _ | refine Below.more ?_ (by first | exact Nat.le_refl _ | (simp; done) | (simp; omega) | omega) _ _ | refine Below.setCell ?_ (by first | exact Nat.le_refl _ | (simp; done) | (simp; omega) | omega) _ | assumption))⟩
  · have hp : ¬ ((n : Int) ≤ 0) := by omega
    have hp' : decide ((n : Int) ≤ 0) = false := by simp; omega
    have hdig := digit_back w
    go_enter Tryd.func62, Tryd.ntmps62
    go_wp2
    go_loopw [0, 3] (fun x s wr => ∃ (f m d : Nat) (t : ByteArray) (X : Array Obj), m ≤ f ∧ m ≤ n ∧ t.size + m ≤ n ∧ x = .int .i64 m ∧ s = .string t ∧ mloop f m t = mloop n n ByteArray.empty ∧ wr = more w X d) (fun x _ _ => (intOf x).toNat)
    case atStart => exact ⟨n, n, w.drawn, ByteArray.empty, #[], Nat.le_refl _, Nat.le_refl _, by simp, rfl, rfl, rfl, (more_none w _).symm⟩
    case round =>
      obtain ⟨f, m, d, t, X, hm, hm2, hts, rfl, rfl, hl, rfl⟩ := hrel
      by_cases h : m = 0
      · subst h
        have HL := Lib.hid hl
        clear hl
        have hts' : t.size ≤ 1000000000000000 := by omega
        go_wp2
        go_ret
        refine ⟨?_, (by repeat (first | exact Below.refl _ _ | refine Below.drew ?_ | refine Below.alloc ?_ (by first | exact Nat.le_refl _ | (simp; done) | (simp; omega) | omega) _ | refine Below.more ?_ (by first | exact Nat.le_refl _ | (simp; done) | (simp; omega) | omega) _ _ | refine Below.setCell ?_ (by first | exact Nat.le_refl _ | (simp; done) | (simp; omega) | omega) _ | assumption))⟩
        have e2 : mtext n = ⟨#[109]⟩ ++ t := by rw [mtext, if_neg h0, ← HL.out, mloop_zero]
        rw [e2]; rfl
      · have hts' : t.size ≤ 1000000000000000 := by omega
        have hm0 : (0 : Int) < (m : Int) := by omega
        have HL := Lib.hid hl
        clear hl
        go_wp2
        obtain ⟨X', d', e⟩ := Below.ext (w := w) (w' := (more w X d).alloc (.cells #[.int .u8 (48 + (m : Int) % 10)] 5)) (by repeat (first | exact Below.refl _ _ | refine Below.drew ?_ | refine Below.alloc ?_ (by first | exact Nat.le_refl _ | (simp; done) | (simp; omega) | omega) _ | refine Below.more ?_ (by first | exact Nat.le_refl _ | (simp; done) | (simp; omega) | omega) _ _ | refine Below.setCell ?_ (by first | exact Nat.le_refl _ | (simp; done) | (simp; omega) | omega) _ | assumption))
        obtain ⟨f', rfl⟩ : ∃ f', f = f' + 1 := ⟨f - 1, by omega⟩
        refine ⟨⟨f', m / 10, d', _, X', by omega, by omega, ?_, by simp, rfl, ?_, e⟩, by simp only [intOf]; omega⟩
        · simp only [ByteArray.size_append]
          have : (⟨#[48 + UInt8.ofNat (m % 10)]⟩ : ByteArray).size = 1 := rfl
          omega
        · rw [← HL.out, mloop_step h]
end Go.Proofs.YtdkjiafdfenbkaaDoor
