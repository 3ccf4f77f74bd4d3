/- Contracts of Join. -/
import Derived.Test.YtdkjiafdfenbkaaDoorSString
import Derived.Test.YtdkjiafdfenbkaaDoorShelf
namespace Go.Proofs.YtdkjiafdfenbkaaDoor
open Go Go.RowKit
/-- The texts, one behind the other, with a separator between them. -/
def joinL (ts : List ByteArray) (sep : ByteArray) : List UInt8 := Lib.join (ts.map (·.data.toList)) sep.data.toList
def joinB (ts : List ByteArray) (sep : ByteArray) : ByteArray := ⟨(joinL ts sep).toArray⟩
theorem joinTail_snoc (sep : List UInt8) (r : List (List UInt8)) (y : List UInt8) : Lib.joinTail sep (r ++ [y]) = Lib.joinTail sep r ++ (sep ++ y) := by simp [Lib.joinTail]
theorem join_snoc {ts : List (List UInt8)} {sep y : List UInt8} (h : ts ≠ []) : Lib.join (ts ++ [y]) sep = (Lib.join ts sep ++ sep) ++ y := by
  cases ts with
  | nil => exact absurd rfl h
  | cons x r => rw [List.cons_append, Lib.join_cons, Lib.join_cons, joinTail_snoc]; simp
theorem joinTail_bd (sep : List UInt8) (B : Nat) (r : List (List UInt8)) (h : ∀ t ∈ r, t.length ≤ B) : (Lib.joinTail sep r).length ≤ r.length * (B + sep.length) := by
  induction r with
  | nil => simp [Lib.joinTail]
  | cons x r ih =>
    have h1 := ih (fun t ht => h t (List.mem_cons_of_mem _ ht))
    have h2 := h x (by simp)
    simp only [Lib.joinTail, List.map_cons, List.flatten_cons, List.length_append, List.length_cons] at h1 ⊢
    rw [Nat.add_mul, Nat.one_mul]
    omega
theorem join_bd (ts : List (List UInt8)) (sep : List UInt8) (B : Nat) (h : ∀ t ∈ ts, t.length ≤ B) : (Lib.join ts sep).length ≤ ts.length * (B + sep.length) := by
  cases ts with
  | nil => simp [Lib.join_nil]
  | cons x r =>
    have h1 := joinTail_bd sep B r (fun t ht => h t (List.mem_cons_of_mem _ ht))
    have h2 := h x (by simp)
    rw [Lib.join_cons, List.length_append, List.length_cons, Nat.add_mul, Nat.one_mul]
    omega
theorem joinL_bd (ts : List ByteArray) (sep : ByteArray) (B : Nat) (h : ∀ t ∈ ts, t.size ≤ B) : (joinL ts sep).length ≤ ts.length * (B + sep.size) := by
  have := join_bd (ts.map (·.data.toList)) sep.data.toList B (by
    intro t ht
    obtain ⟨x, hx, rfl⟩ := List.mem_map.1 ht
    have := h x hx
    simpa using this)
  simpa [joinL] using this
theorem joinL_take {ts : List ByteArray} {sep : ByteArray} {k : Nat} (h : k < ts.length) (h0 : 0 < k) : joinL (ts.take (k + 1)) sep = (joinL (ts.take k) sep ++ sep.data.toList) ++ (ts.getD k ByteArray.empty).data.toList := by
  rw [List.take_succ_eq_append_getElem h, List.getD_eq_getElem?_getD, List.getElem?_eq_getElem h]
  simp only [joinL, List.map_append, List.map_cons, List.map_nil, Option.getD_some]
  exact join_snoc (by intro e; have := congrArg List.length e; simp only [List.length_map, List.length_take, List.length_nil] at this; omega)
theorem joinL_one {ts : List ByteArray} {sep : ByteArray} (h : 0 < ts.length) : joinL (ts.take 1) sep = (ts.getD 0 ByteArray.empty).data.toList := by
  cases ts with
  | nil => simp at h
  | cons x r => simp [joinL, Lib.join_one]
theorem ba_app (a b : ByteArray) : (a ++ b).data.toList = a.data.toList ++ b.data.toList := by simp
theorem ba_of {s : ByteArray} {l : List UInt8} (h : s.data.toList = l) : s = ⟨l.toArray⟩ := by
  obtain ⟨⟨x⟩⟩ := s; simp at h; rw [h]
set_option maxRecDepth 100000 in
theorem impl_Join_c (a : Option Addr) (cap : Nat) (ts : List ByteArray) (n : Nat) (HN : Hid (ts.length = n)) (sep : ByteArray) (w : World) (hr : Sl w a 1 n (stringAt ts)) (hn : n ≤ 1048576) (hcap : n ≤ cap) (hB : ∀ t ∈ ts, t.size ≤ 1048576) (hsep : sep.size ≤ 16) :
    Calls Tryd.prog 76 #[.slice a n cap, .string sep] w fun e w' => e = .returned (.string (joinB ts sep)) ∧ Below w.heap.size w w' := by
  have HB := Lib.hid hB
  have HR := Lib.hid hr
  clear hB hr
  by_cases h0 : n = 0
  · subst h0
    have hts : ts = [] := List.eq_nil_of_length_eq_zero HN.out
    have HT := Lib.hid hts
    clear hts HN
    go_enter Tryd.func76, Tryd.ntmps76
    go_wp2_with fail
    refine (show Calls Tryd.prog 116 #[.string sep, .slice a 0 cap] _ (fun e w' => e = .returned (.string ⟨#[]⟩) ∧ Below w.heap.size w w') from ?_).mono ?_
    · go_enter Tryd.func116, Tryd.ntmps116
      go_wp2_with fail
      refine (Tryd.strings_Join_none a cap sep _).mono ?_
      rintro e w1 ⟨rfl, rfl⟩
      go_wp2
      go_ret
      exact ⟨rfl, (by repeat (first | exact Below.refl _ _ | refine Below.drew ?_ | refine Below.alloc ?_ (by first | exact Nat.le_refl _ | (simp; done) | (simp; omega) | omega) _ | refine Below.more ?_ (by first | exact Nat.le_refl _ | (simp; done) | (simp; omega) | omega) _ _ | refine Below.setCell ?_ (by first | exact Nat.le_refl _ | (simp; done) | (simp; omega) | omega) _ | assumption))⟩
    · rintro e w1 ⟨rfl, hb⟩
      have HBE := Lib.hid hb
      go_wp2
      go_ret
      exact ⟨by rw [HT.out]; rfl, HBE.out⟩
  · obtain ⟨b, o, rfl, hb, hc⟩ := HR.out (by omega)
    have hcells : ∀ (j : Nat) x, ts[j]? = some x → w.cell? ⟨b, o + j, none⟩ = some (.string x) := by
      intro j x hx
      have hj : j < ts.length := (List.getElem?_eq_some_iff.1 hx).1
      have := hc j (by rw [← HN.out]; exact hj) 0 (by omega)
      rw [Nat.mul_one, Nat.add_zero] at this
      rw [this]
      simp [stringAt, List.getD_eq_getElem?_getD, hx]
    have HC := Lib.hid hcells
    clear hc hcells
    have HL := Lib.hid (show (Lib.join (ts.map (·.data.toList)) sep.data.toList).length ≤ 140737488355328 by
      have h1 := joinL_bd ts sep 1048576 HB.out
      have h2 : ts.length * (1048576 + sep.size) ≤ 1048576 * (1048576 + 16) := Nat.mul_le_mul (by rw [HN.out]; exact hn) (by omega)
      unfold joinL at h1
      omega)
    go_enter Tryd.func76, Tryd.ntmps76
    go_wp2_with fail
    refine (show Calls Tryd.prog 116 #[.string sep, .slice (some ⟨b, o, none⟩) n cap] _ (fun e w' => e = .returned (.string (joinB ts sep)) ∧ Below w.heap.size w w') from ?_).mono ?_
    · go_enter Tryd.func116, Tryd.ntmps116
      go_wp2_with fail
      have hj := Tryd.strings_Join b o cap ts sep w HC.out hb (by rw [HN.out]; omega) (by rw [HN.out]; exact hcap) HL.out
      rw [HN.out] at hj
      refine hj.mono ?_
      rintro e w1 ⟨rfl, hb1⟩
      have HBE := Lib.hid hb1
      clear hj
      go_wp2
      go_ret
      exact ⟨rfl, HBE.out⟩
    · rintro e w1 ⟨rfl, hb1⟩
      have HBE := Lib.hid hb1
      go_wp2
      go_ret
      exact ⟨rfl, HBE.out⟩
set_option maxRecDepth 100000 in
theorem spec_Join_c (a : Option Addr) (cap : Nat) (ts : List ByteArray) (n : Nat) (HN : Hid (ts.length = n)) (sep : ByteArray) (w : World) (hr : Sl w a 1 n (stringAt ts)) (hn : n ≤ 1048576) (hB : ∀ t ∈ ts, t.size ≤ 1048576) (hsep : sep.size ≤ 16) :
    Calls Tryd.prog 75 #[.slice a n cap, .string sep] w fun e w' => e = .returned (.string (joinB ts sep)) ∧ w = w' := by
  have HB := Lib.hid hB
  have HR := Lib.hid hr
  clear hB hr
  go_enter Tryd.func75, Tryd.ntmps75
  go_wp2
  go_loop [5, 10] (fun s i => ∃ (k : Nat) (t : ByteArray), k ≤ n ∧ i = .int .i64 k ∧ s = .string t ∧ Hid (t.data.toList = joinL (ts.take k) sep)) (fun _ i => n - (intOf i).toNat)
  case atStart => exact ⟨0, ByteArray.empty, by omega, rfl, rfl, Lib.hid (by simp [joinL, Lib.join_nil])⟩
  case round =>
    obtain ⟨k, t, hk, rfl, rfl, HT⟩ := hrel
    by_cases hlt : k < n
    · have hk1 : (k : Int) < (n : Int) := by omega
      obtain ⟨b, o, rfl, hb, hc⟩ := HR.out (by omega)
      have c0 : w.cell? ⟨b, o + k, none⟩ = some (.string (ts.getD k ByteArray.empty)) := by have := hc k hlt 0 (by omega); rw [Nat.mul_one, Nat.add_zero] at this; exact this
      clear hc
      have hx : (ts.getD k ByteArray.empty).size ≤ 1048576 := by
        have hk' : k < ts.length := by rw [HN.out]; exact hlt
        rw [List.getD_eq_getElem?_getD, List.getElem?_eq_getElem hk']
        exact HB.out _ (List.getElem_mem hk')
      have hts : t.size ≤ 1099528404992 := by
        have h1 := joinL_bd (ts.take k) sep 1048576 (fun x hx => HB.out x (List.mem_of_mem_take hx))
        have h2 : (ts.take k).length * (1048576 + sep.size) ≤ 1048576 * (1048576 + 16) := Nat.mul_le_mul (by rw [List.length_take]; omega) (by omega)
        rw [← HT.out] at h1
        have h3 : t.data.toList.length = t.size := by simp
        omega
      by_cases h0 : k = 0
      · subst h0
        have H1 := Lib.hid (show (ts.getD 0 ByteArray.empty).data.toList = joinL (ts.take 1) sep from (joinL_one (by rw [HN.out]; exact hlt)).symm)
        have H0 := Lib.hid (show t = ByteArray.empty from by have := HT.out; rw [List.take_zero] at this; simp only [joinL, List.map_nil, Lib.join_nil] at this; rw [ba_of this]; rfl)
        generalize ts.getD 0 ByteArray.empty = x at *
        rw [Nat.add_zero] at c0
        go_wp2
        refine ⟨⟨1, _, by omega, rfl, rfl, Lib.hid ?_⟩, by simp only [intOf]; omega⟩
        rw [ba_app, H0.out, H1.out]; rfl
      · have hk2 : (0 : Int) < (k : Int) := by omega
        have H1 := Lib.hid (joinL_take (ts := ts) (sep := sep) (k := k) (by rw [HN.out]; exact hlt) (by omega))
        generalize ts.getD k ByteArray.empty = x at *
        go_wp2
        refine ⟨⟨k + 1, _, by omega, rfl, rfl, Lib.hid ?_⟩, by simp only [intOf]; omega⟩
        rw [ba_app, ba_app, HT.out, H1.out]
    · have hk' : k = n := by omega
      have H1 := Lib.hid (show t = joinB ts sep from by rw [ba_of HT.out, joinB, List.take_of_length_le (by rw [HN.out]; omega)])
      clear hk'
      go_wp2
      go_ret
      exact ⟨by rw [H1.out]; rfl, rfl⟩
end Go.Proofs.YtdkjiafdfenbkaaDoor
