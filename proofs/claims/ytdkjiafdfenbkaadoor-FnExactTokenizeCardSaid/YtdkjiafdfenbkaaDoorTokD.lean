/- What a scan gives, plainly; bytes turned to bytes. -/
import Derived.Test.YtdkjiafdfenbkaaDoorScanS
import Derived.Test.YtdkjiafdfenbkaaDoorTokA
import Derived.Test.YtdkjiafdfenbkaaDoorAppInt
import Derived.Test.YtdkjiafdfenbkaaDoorPutO
namespace Go.Proofs.YtdkjiafdfenbkaaDoor
open Go Go.RowKit
set_option linter.unusedVariables false
/-- A token, its end, and whether it is one. -/
def ScnE (t : ByteArray) (a : Nat) (w : World) (e : Ending) (w' : World) : Prop :=
  ∃ (k : TokenD) (E : Nat) (ok : Bool), e = .returned (.tuple #[.agg ⟨k.cells⟩, .int .i64 (E : Int), .bool ok]) ∧ Below w.heap.size w w' ∧ scanT t a = (if ok then some k else none) ∧ (ok = true → E = a + k.f1.size)
theorem scanS_dig {t : ByteArray} {a : Nat} (h : digB (byteAt t a) = true) {E v : Nat} {ok : Bool} (hn : numS t a = if ok then some (E, v) else none) : scanT t a = if ok then some ⟨1, t.extract a E, v, a⟩ else none := by
  unfold scanT; rw [if_pos h, hn]; cases ok <;> rfl
theorem scanS_let {t : ByteArray} {a k I : Nat} (h1 : digB (byteAt t a) = false) (h : letB (byteAt t a) = true) (hs : span alnB t a = k) (hI : I = a + k) : scanT t a = if decide (k ≤ 8) then some ⟨2, t.extract a I, 0, a⟩ else none := by
  unfold scanT; rw [if_neg (by simp [h1]), if_pos h, hs, ← hI]
  by_cases h8 : k ≤ 8
  · rw [if_neg (by omega), if_pos (decide_eq_true h8)]
  · rw [if_pos (by omega), if_neg (by simpa using h8)]
theorem scanS_sym {t : ByteArray} {a : Nat} (h1 : digB (byteAt t a) = false) (h2 : letB (byteAt t a) = false) (h : symB (byteAt t a) = true) : scanT t a = some ⟨3, t.extract a (a + 1), 0, a⟩ := by unfold scanT; rw [if_neg (by simp [h1]), if_neg (by simp [h2]), if_pos h]
theorem scanS_no {t : ByteArray} {a : Nat} (h1 : digB (byteAt t a) = false) (h2 : letB (byteAt t a) = false) (h : symB (byteAt t a) = false) : scanT t a = none := by unfold scanT; rw [if_neg (by simp [h1]), if_neg (by simp [h2]), if_neg (by simp [h])]
theorem sym_or {c : Nat} (h : symB c = true) : c = 43 ∨ c = 45 ∨ c = 42 ∨ c = 47 ∨ c = 40 ∨ c = 41 ∨ c = 44 ∨ c = 61 ∨ c = 59 := by
  simp only [symB, List.contains_eq_mem, List.mem_cons, List.not_mem_nil, or_false, decide_eq_true_eq] at h
  exact h
theorem sym_not {c : Nat} (h : symB c = false) : ¬ c = 43 ∧ ¬ c = 45 ∧ ¬ c = 42 ∧ ¬ c = 47 ∧ ¬ c = 40 ∧ ¬ c = 41 ∧ ¬ c = 44 ∧ ¬ c = 61 ∧ ¬ c = 59 := by
  have h2 : ¬ symB c = true := by rw [h]; simp
  simp only [symB, List.contains_eq_mem, List.mem_cons, List.not_mem_nil, or_false, decide_eq_true_eq, not_or] at h2
  exact h2
/-- '[]byte(b)' of bytes: the same slice; the row's end is marked. -/
theorem conv_mark (g n c : Nat) (arr : Array Value) (w : World) (hg : w.heap[g]? = some (.cells arr 5 (0, 0))) :
    ∃ W1, (convert 38 38 (.slice (some ⟨g, 0, none⟩) n c)).run Tryd.prog w = .ok (.slice (some ⟨g, 0, none⟩) n c) W1 ∧ (∀ lo, lo ≤ g → Below lo w W1) ∧ (∀ k, k ≠ g → W1.heap[k]? = w.heap[k]?) ∧ W1.heap.size = w.heap.size ∧ ∀ j, W1.cell? ⟨g, j, none⟩ = arr[j]? := by
  have hsh : w.shape? g = some (5, arr.size) := by simp [World.shape?, hg]
  have hk : ∀ k, k ≠ g → (w.freeze ⟨g, arr.size, none⟩ 1).heap[k]? = w.heap[k]? := by
    intro k hk
    simp [World.freeze, Array.getElem?_modify, Ne.symm hk]
  have hgg : (w.freeze ⟨g, arr.size, none⟩ 1).heap[g]? = some (.cells arr 5 (arr.size, arr.size + 1)) := by
    simp [World.freeze, Array.getElem?_modify, hg]
  have hsz : (w.freeze ⟨g, arr.size, none⟩ 1).heap.size = w.heap.size := by simp [World.freeze]
  refine ⟨w.freeze ⟨g, arr.size, none⟩ 1, ?_, fun lo hlo => ⟨rfl, rfl, rfl, by rw [hsz]; exact Nat.le_refl _, fun k hk2 => hk k (by omega)⟩, hk, hsz, fun j => by simp [World.cell?, hgg]⟩
  simp [convert, run_underlying Tryd.underlying38, run_underlying Tryd.underlying5, markStringish, hsh, Result.andThen]
theorem ext_size {t : ByteArray} {a E : Nat} (h : a ≤ E) (h2 : E ≤ t.size) : E = a + (t.extract a E).size := by rw [ByteArray.size_extract]; omega
end Go.Proofs.YtdkjiafdfenbkaaDoor
