/- What is written of a camera is read again, plainly. -/
import Derived.Test.YtdkjiafdfenbkaaDoorParseInts
import Derived.Test.YtdkjiafdfenbkaaDoorFormats
namespace Go.Proofs.YtdkjiafdfenbkaaDoor
open Go Go.RowKit
set_option linter.unusedVariables false
theorem data_extract {t : ByteArray} (A p B : List UInt8) (h : t.data.toList = A ++ (p ++ B)) : t.extract A.length (A.length + p.length) = ⟨p.toArray⟩ := by
  apply ByteArray.ext
  apply Array.toList_inj.1
  simp [ByteArray.data_extract, Array.toList_extract, h, List.extract]
def NoC (p : List UInt8) : Prop := ∀ c ∈ p, c ≠ 44
theorem byteAt_in {t : ByteArray} {A B : List UInt8} {c : UInt8} (h : t.data.toList = A ++ c :: B) : byteAt t A.length = c.toNat := by
  have hl : A.length < t.data.toList.length := by rw [h]; simp
  rw [byteAt_list hl]
  simp [h]
theorem split_run {t : ByteArray} {D : List ByteArray} {s : Nat} : ∀ (p A B : List UInt8), NoC p → t.data.toList = A ++ (p ++ B) → splitSt t A.length = (D, s) → splitSt t (A.length + p.length) = (D, s)
  | [], A, B, _, _, h => h
  | c :: p, A, B, hp, ht, h => by
    have h1 : byteAt t A.length = c.toNat := byteAt_in (B := p ++ B) (by rw [ht]; simp)
    have h2 : ¬ byteAt t A.length = 44 := by
      rw [h1]
      intro h3
      exact hp c (by simp) (UInt8.toNat_inj.1 (by rw [h3]; rfl))
    have h3 : splitSt t ((A ++ [c]).length) = (D, s) := by
      rw [List.length_append]
      show splitSt t (A.length + 1) = (D, s)
      rw [splitSt, if_neg h2, h]
    have h4 := split_run p (A ++ [c]) B (fun x hx => hp x (List.mem_cons_of_mem _ hx)) (by rw [ht]; simp) h3
    rw [show A.length + (c :: p).length = (A ++ [c]).length + p.length from by simp; omega]
    exact h4
theorem split_all {t : ByteArray} : ∀ (r : List (List UInt8)) (p A : List UInt8) (D : List ByteArray), NoC p → (∀ q ∈ r, NoC q) → t.data.toList = A ++ (p ++ Lib.joinTail [44] r) → splitSt t A.length = (D, A.length) →
    parts t = D ++ (p :: r).map (fun q => ⟨q.toArray⟩)
  | [], p, A, D, hp, hr, ht, h => by
    have h1 := split_run p A _ hp ht h
    have hs : t.size = A.length + p.length := by
      show t.data.size = _
      rw [← Array.length_toList, ht]; simp [Lib.joinTail]
    unfold parts
    rw [hs, h1, data_extract A p _ ht]
    rfl
  | q :: r, p, A, D, hp, hr, ht, h => by
    have h1 := split_run p A _ hp ht h
    have ht2 : t.data.toList = (A ++ p) ++ 44 :: (q ++ Lib.joinTail [44] r) := by rw [ht]; simp [Lib.joinTail]
    have h2 : byteAt t (A.length + p.length) = 44 := by
      have := byteAt_in ht2
      rw [List.length_append] at this
      rw [this]; rfl
    have h3 : splitSt t ((A ++ (p ++ [44])).length) = (D ++ [⟨p.toArray⟩], (A ++ (p ++ [44])).length) := by
      have hl : (A ++ (p ++ [44])).length = A.length + p.length + 1 := by simp; omega
      rw [hl, splitSt, if_pos h2, h1]
      simp only []
      rw [data_extract A p _ ht]
    have h4 := split_all r q (A ++ (p ++ [44])) (D ++ [⟨p.toArray⟩]) (hr q (by simp)) (fun x hx => hr x (List.mem_cons_of_mem _ hx)) (by rw [ht2]; simp) h3
    rw [h4]
    simp
theorem parts_join {ts : List ByteArray} (h0 : ts ≠ []) (h : ∀ p ∈ ts, NoC p.data.toList) : parts (joinB ts ⟨#[44]⟩) = ts := by
  cases ts with
  | nil => exact absurd rfl h0
  | cons p r =>
    have h1 : (joinB (p :: r) ⟨#[44]⟩).data.toList = [] ++ (p.data.toList ++ Lib.joinTail [44] (r.map (·.data.toList))) := by
      simp [joinB, joinL, Lib.join_cons]
    rw [split_all (r.map (·.data.toList)) p.data.toList [] [] (h p (by simp)) (fun q hq => by
      obtain ⟨x, hx, rfl⟩ := List.mem_map.1 hq
      exact h x (List.mem_cons_of_mem _ hx)) h1 rfl]
    simp only [List.nil_append, List.map_cons, List.map_map]
    congr 1
    · exact List.map_id'' (fun x => rfl) r
theorem allI_map : ∀ {l : List Int}, (∀ x ∈ l, fmtOk x = true) → allI (l.map fmtB) = some l
  | [], _ => rfl
  | x :: l, h => by
    show (match parseI (fmtB x), allI (l.map fmtB) with | some m, some ms => some (m :: ms) | _, _ => none) = some (x :: l)
    rw [parseI_some (h x (by simp)), allI_map (fun y hy => h y (List.mem_cons_of_mem _ hy))]
theorem fmt_noC {n : Int} (h : fmtOk n = true) : NoC (fmtB n).data.toList := by
  rw [fmtB_data h]
  intro c hc
  have hd : ∀ d : UInt8, IsDig d → d ≠ 44 := fun d hd e => by subst e; exact absurd hd (by unfold IsDig; decide)
  rcases (itoa_form h).2 with ⟨r, h1, h2, _⟩ | ⟨h1, _⟩
  · rw [h1] at hc
    rcases List.mem_cons.1 hc with rfl | hc
    · decide
    · exact hd c (h2 c hc)
  · exact hd c (h1 c hc)
theorem parseIs_fmts {l : List Int} (h2 : 2 ≤ l.length) (h : ∀ x ∈ l, fmtOk x = true) : parseIs (fmtsB l) = some l := by
  have h1 : fmtsB l = joinB (l.map fmtB) ⟨#[44]⟩ := by
    unfold fmtsB
    rw [show l.isEmpty = false by cases l <;> simp at h2 ⊢, show l.all fmtOk = true by rw [List.all_eq_true]; exact h]
    rfl
  have hp : parts (fmtsB l) = l.map fmtB := by
    rw [h1]
    refine parts_join (by cases l <;> simp at h2 ⊢) (fun p hp => ?_)
    obtain ⟨x, hx, rfl⟩ := List.mem_map.1 hp
    exact fmt_noC (h x hx)
  unfold parseIs
  rw [if_neg, hp, allI_map h]
  intro he
  have h3 : parts ⟨#[45]⟩ = [⟨#[45]⟩] := by
    have := parts_join (ts := [⟨#[45]⟩]) (by simp) (by intro p hp; obtain rfl := List.mem_singleton.1 hp; intro c hc; obtain rfl := List.mem_singleton.1 hc; decide)
    exact this
  rw [he, h3] at hp
  have := congrArg List.length hp
  simp at this
  omega
end Go.Proofs.YtdkjiafdfenbkaaDoor
