/- Contracts of ParseInt, the reference's. -/
import Derived.Test.YtdkjiafdfenbkaaDoorParseInt
import Derived.Test.YtdkjiafdfenbkaaDoorIdent
namespace Go.Proofs.YtdkjiafdfenbkaaDoor
open Go Go.RowKit
set_option linter.unusedVariables false
theorem byteAt_list {t : ByteArray} {k : Nat} (h : k < t.data.toList.length) : byteAt t k = (t.data.toList[k]'h).toNat := by
  have h' : k < t.size := by simpa using h
  rw [← byteAt_eq h']
  simp [ByteArray.getElem_eq_getElem_data]
/-- What the digits before place k spell. -/
def upTo (t : ByteArray) (b : Bool) : Nat → Nat
  | 0 => 0
  | k + 1 => if b = true ∧ k = 0 then 0 else upTo t b k * 10 + (byteAt t k - 48)
def DigAt (t : ByteArray) (b : Bool) (j : Nat) : Prop := (b = true ∧ j = 0) ∨ (48 ≤ byteAt t j ∧ byteAt t j ≤ 57)
theorem upTo_lt {t : ByteArray} {b : Bool} : ∀ k, (∀ j, j < k → DigAt t b j) → upTo t b k < 10 ^ k
  | 0, _ => by simp [upTo]
  | k + 1, h => by
    have ih := upTo_lt k (fun j hj => h j (by omega))
    have hk := h k (by omega)
    unfold upTo
    have e : 10 ^ (k + 1) = 10 ^ k * 10 := Nat.pow_succ ..
    split
    · rw [e]; have := Nat.pow_pos (n := k) (show 0 < 10 by omega); omega
    · next hn =>
      rcases hk with hk | hk
      · exact absurd hk hn
      · omega
theorem upTo_small {t : ByteArray} {b : Bool} {k : Nat} (h : ∀ j, j < k → DigAt t b j) (hk : k ≤ 12) : upTo t b k ≤ 1000000000000 := by
  have h1 := upTo_lt k h
  have h2 : 10 ^ k ≤ 10 ^ 12 := Nat.pow_le_pow_right (by omega) hk
  have h3 : 10 ^ 12 = 1000000000000 := by decide
  omega
def negT (t : ByteArray) : Bool := decide (byteAt t 0 = 45)
theorem upTo_pos {t : ByteArray} : ∀ k, k ≤ t.data.toList.length → upTo t false k = valL 0 (t.data.toList.take k)
  | 0, _ => rfl
  | k + 1, h => by
    unfold upTo
    rw [if_neg (by simp), upTo_pos k (by omega), List.take_succ_eq_append_getElem (by omega), valL_append, byteAt_list (by omega)]
    rfl
theorem upTo_neg {t : ByteArray} {c : UInt8} {r : List UInt8} (ht : t.data.toList = c :: r) : ∀ k, k ≤ r.length → upTo t true (k + 1) = valL 0 (r.take k)
  | 0, _ => by unfold upTo; rw [if_pos ⟨rfl, rfl⟩]; rfl
  | k + 1, h => by
    have ih := upTo_neg ht k (by omega)
    have hl : k + 1 < t.data.toList.length := by rw [ht]; simp; omega
    rw [upTo, if_neg (by simp), ih, List.take_succ_eq_append_getElem (by omega), valL_append, byteAt_list hl]
    simp only [ht, List.getElem_cons_succ]
    rfl
theorem size_list (t : ByteArray) : t.data.toList.length = t.size := by simp
theorem form_of {t : ByteArray} {m : Int} (h : parseI t = some m) : t.size ≤ 11 ∧ (∀ k, k < t.size → DigAt t (negT t) k) ∧ m = if negT t = true then -(upTo t (negT t) t.size : Int) else (upTo t (negT t) t.size : Int) := by
  obtain ⟨hn, hm⟩ := parseI_of h
  have hL : t.data.toList = Lib.itoa m := by rw [← hm, fmtB_data hn]
  obtain ⟨h1, h2⟩ := itoa_form hn
  have hz : t.size ≤ 11 := by rw [← size_list, hL]; exact h1
  refine ⟨hz, ?_⟩
  rcases h2 with ⟨r, hr, hd, hv⟩ | ⟨hd, hv⟩
  · rw [hr] at hL
    have h0 : byteAt t 0 = 45 := by rw [byteAt_list (by rw [hL]; simp)]; simp only [hL]; rfl
    have hneg : negT t = true := by simp [negT, h0]
    rw [hneg]
    refine ⟨fun k hk => ?_, ?_⟩
    · cases k with
      | zero => exact .inl ⟨rfl, rfl⟩
      | succ k =>
        right
        have hk2 : k + 1 < t.data.toList.length := by rw [size_list]; exact hk
        rw [byteAt_list hk2]
        simp only [hL, List.getElem_cons_succ]
        exact hd _ (List.getElem_mem _)
    · have hs : t.size = r.length + 1 := by rw [← size_list, hL]; rfl
      rw [if_pos rfl, hs, upTo_neg hL _ (Nat.le_refl _), List.take_length]; exact hv
  · rw [← hL] at hd hv
    have hpos : 1 ≤ t.data.toList.length := by rw [hL]; exact (itoa_len hn).2
    have h0 : ¬ byteAt t 0 = 45 := by
      rw [byteAt_list (by omega)]
      have := hd _ (List.getElem_mem (show 0 < t.data.toList.length by omega))
      unfold IsDig at this; omega
    have hneg : negT t = false := by simp [negT, h0]
    rw [hneg]
    refine ⟨fun k hk => ?_, ?_⟩
    · right
      have hk2 : k < t.data.toList.length := by rw [size_list]; exact hk
      rw [byteAt_list hk2]; exact hd _ (List.getElem_mem _)
    · rw [if_neg (by simp), ← size_list, upTo_pos _ (Nat.le_refl _), List.take_length]; exact hv
theorem parseI_bad {t : ByteArray} {k : Nat} (hk : k < t.size) (h : ¬ DigAt t (negT t) k) : parseI t = none := by
  cases hp : parseI t with
  | none => rfl
  | some m => exact absurd ((form_of hp).2.1 k hk) h
theorem parseI_long {t : ByteArray} (h : 12 < t.size) : parseI t = none := by
  cases hp : parseI t with
  | none => rfl
  | some m => have := (form_of hp).1; omega
theorem parseI_end {t : ByteArray} {v : Int} (h0 : ¬ t.toList = []) (hv : v = if negT t = true then -(upTo t (negT t) t.size : Int) else (upTo t (negT t) t.size : Int)) : parseI t = if fmtB v = t then some v else none := by
  split
  · next h =>
    have hok : fmtOk v = true := by
      cases hf : fmtOk v
      · rw [fmtB_empty.2 hf] at h
        exact absurd (by rw [← h, Lib.toList_data]) h0
      · rfl
    rw [← h]; exact parseI_some hok
  · next h =>
    cases hp : parseI t with
    | none => rfl
    | some m =>
      have := (form_of hp).2.2
      rw [← hv] at this
      subst this
      exact absurd (parseI_of hp).2 h
theorem parseI_empty : parseI ⟨#[]⟩ = none := rfl
set_option maxRecDepth 100000 in
set_option maxHeartbeats 3000000 in
theorem spec_ParseInt_empty (w : World) :
    Calls Tryd.prog 78 #[.string ⟨#[]⟩] w fun e w' => e = .returned (optV none) ∧ Below w.heap.size w w' := by
  go_enter Tryd.func78, Tryd.ntmps78
  go_wp2
  refine wp_loop_rounds 1 ?_
  rw [rounds_succ]
  go_wp2
  exact bodyPost_ret (v := .tuple #[.int .i64 0, .bool false]) (by simp [results, Tryd.results78, go_sem]) rfl ⟨rfl, (by repeat (first | exact Below.refl _ _ | refine Below.drew ?_ | refine Below.alloc ?_ (by first | exact Nat.le_refl _ | (simp; done) | (simp; omega) | omega) _ | refine Below.more ?_ (by first | exact Nat.le_refl _ | (simp; done) | (simp; omega) | omega) _ _ | refine Below.setCell ?_ (by first | exact Nat.le_refl _ | (simp; done) | (simp; omega) | omega) _ | assumption))⟩
set_option maxRecDepth 100000 in
set_option maxHeartbeats 3000000 in
theorem spec_ParseInt_c (t : ByteArray) (w : World) (ht : t.size ≤ 1048576) :
    Calls Tryd.prog 78 #[.string t] w fun e w' => e = .returned (optV (parseI t)) ∧ Below w.heap.size w w' := by
  by_cases hz : t.size = 0
  · have : t = ⟨#[]⟩ := ba_nil (by rw [Lib.toList_data]; exact List.eq_nil_of_length_eq_zero (by rw [size_list]; exact hz))
    rw [this, parseI_empty]
    exact spec_ParseInt_empty w
  · have hz1 : 0 < t.size := by omega
    have hz2 : (0 : Int) < (t.size : Int) := by omega
    have hne : ¬ t.toList = [] := fun h => by rw [ba_nil h] at hz1; exact absurd hz1 (by decide)
    have hne2 : t.toList.isEmpty = false := by cases h : t.toList with
      | nil => exact absurd h hne
      | cons => rfl
    have HNE := Lib.hid hne
    have ix0 : ∀ (w : World), (Instr.index 9 (.string t) (.int .i64 0)).run Tryd.prog w = .ok (.int .u8 (byteAt t 0)) w := fun w => by
      rw [run_index_string w _ t .i64 0 Tryd.underlying9, dif_pos ⟨by omega, by omega⟩]
      simp only [Int.toNat_zero, byteAt_eq hz1]
    have hb : negT t = decide (byteAt t 0 = 45) := rfl
    obtain ⟨c0, hc0⟩ : ∃ c, c = byteAt t 0 := ⟨_, rfl⟩
    rw [← hc0] at ix0 hb
    obtain ⟨b, hbb⟩ : ∃ b, b = negT t := ⟨_, rfl⟩
    have hval : ((c0 : Int) == 45) = b := by rw [hbb, hb]; by_cases h : c0 = 45 <;> simp [h] <;> omega
    have HBB := Lib.hid hbb
    clear hb hc0 hbb hz
    go_enter Tryd.func78, Tryd.ntmps78
    go_wp2
    go_loopw [4, 6] (fun n i w' => ∃ k : Nat, n = .int .i64 (upTo t b k) ∧ i = .int .i64 k ∧ k ≤ t.size ∧ w' = w ∧ (∀ j, j < k → DigAt t b j) ∧ (1 < k → t.size ≤ 12)) (fun _ i _ => t.size - (intOf i).toNat)
    case atStart => exact ⟨0, rfl, rfl, by omega, rfl, by omega, by omega⟩
    case round =>
      clear ix0
      obtain ⟨k, rfl, rfl, hk, rfl, hdig, hsz⟩ := hrel
      by_cases hp : k < t.size
      · have hk1 : (k : Int) < (t.size : Int) := by omega
        have ix : ∀ (w : World), (Instr.index 9 (.string t) (.int .i64 k)).run Tryd.prog w = .ok (.int .u8 (byteAt t k)) w := fun w => by
          rw [run_index_string w _ t .i64 k Tryd.underlying9, dif_pos ⟨by omega, by omega⟩]
          simp only [Int.toNat_natCast, byteAt_eq hp]
        have hcl := byteAt_lt t k
        obtain ⟨c, hc⟩ : ∃ c, c = byteAt t k := ⟨_, rfl⟩
        rw [← hc] at ix hcl
        have HC := Lib.hid hc
        have HD := Lib.hid hdig
        have HS := Lib.hid hsz
        obtain ⟨x, hx⟩ : ∃ x : Int, x = (c : Int) - 48 := ⟨_, rfl⟩
        have hxw : IntKind.i64.wrap ((c : Int) - 48) = x := by rw [hx]; exact IntWalk.i64_in _ (by omega)
        have hcw : IntKind.i64.wrap (c : Int) = (c : Int) := IntWalk.i64_in _ (by omega)
        have HX := Lib.hid hx
        have HCL := Lib.hid hcl
        clear hc hdig hsz hx hcl
        by_cases hskip : b = true ∧ k = 0
        · obtain ⟨rfl, rfl⟩ := hskip
          have e1 : upTo t true (0 + 1) = 0 := rfl
          go_wp2
          exact ⟨⟨1, rfl, rfl, by omega, trivial, fun j hj => .inl ⟨rfl, by omega⟩, by omega⟩, by (try simp only [intOf]); omega⟩
        · have hpk : (b && ((k : Int) == 0)) = false := by
            cases b
            · rfl
            · have h1 : ¬ k = 0 := fun h => hskip ⟨rfl, h⟩
              simp [h1]
          have HK := Lib.hid hskip
          clear hskip
          by_cases hgood : (0 ≤ x ∧ x ≤ 9) ∧ t.size ≤ 12
          · obtain ⟨⟨hx1, hx2⟩, hsz⟩ := hgood
            have g1 : ¬ x < 0 := by omega
            have g2 : ¬ 9 < x := by omega
            have g3 : ¬ (12 : Int) < (t.size : Int) := by omega
            have g4 : ¬ 12 < t.size := by omega
            have hlt := upTo_small HD.out (show k ≤ 12 by omega)
            have hnext : upTo t b (k + 1) = upTo t b k * 10 + (c - 48) := by rw [upTo, if_neg HK.out, ← HC.out]
            have hcx := HX.out
            have w1 : IntKind.i64.wrap ((upTo t b k : Int) * 10) = (upTo t b k : Int) * 10 := IntWalk.i64_in _ (by omega)
            have w2 : IntKind.i64.wrap ((upTo t b k : Int) * 10 + x) = (upTo t b (k + 1) : Int) := by rw [hnext, IntWalk.i64_in _ (by omega)]; omega
            have HD2 := Lib.hid (show ∀ j, j < k + 1 → DigAt t b j from fun j hj => by
              rcases Nat.lt_or_ge j k with h | h
              · exact HD.out j h
              · obtain rfl : j = k := by omega
                right; rw [← HC.out]; omega)
            clear hlt hnext hcx
            obtain ⟨q, hq⟩ : ∃ q, q = upTo t b (k + 1) := ⟨_, rfl⟩
            rw [← hq] at w2
            generalize upTo t b k = n at w1 w2 ⊢
            have HQ := Lib.hid hq
            clear hq
            by_cases hk0 : k = 0
            · have hb' : b = false := by
                cases b
                · rfl
                · exact absurd ⟨rfl, hk0⟩ HK.out
              subst hb' hk0
              have ix1 : ∀ (w : World), (Instr.index 9 (.string t) (.int .i64 0)).run Tryd.prog w = .ok (.int .u8 c) w := ix
              clear ix
              go_wp2
              refine ⟨⟨1, congrArg (fun z : Nat => Value.int .i64 (z : Int)) HQ.out, rfl, hz1, trivial, HD2.out, fun h => absurd h (by omega)⟩, ?_⟩
              show t.size - 1 < t.size - 0
              omega
            · have hk2 : ¬ (k : Int) = 0 := by omega
              go_wp2
              refine ⟨⟨k + 1, congrArg (fun z : Nat => Value.int .i64 (z : Int)) HQ.out, (by first | rfl | (simp; done) | (simp; omega)), by omega, trivial, HD2.out, fun _ => hsz⟩, ?_⟩
              simp only [intOf]
              omega
          · have HE := Lib.hid (show parseI t = none by
              by_cases h12 : 12 < t.size
              · exact parseI_long h12
              · refine parseI_bad hp ?_
                rw [← HBB.out]
                unfold DigAt
                rw [← HC.out]
                have := HX.out
                rintro (h | h)
                · exact HK.out h
                · exact hgood ⟨by omega, by omega⟩)
            have HG := Lib.hid hgood
            clear hgood
            generalize upTo t b k = n at *
            by_cases g1 : x < 0
            · by_cases hk0 : k = 0
              · have hb' : b = false := by
                  cases b
                  · rfl
                  · exact absurd ⟨rfl, hk0⟩ HK.out
                subst hb' hk0
                have ix1 : ∀ (w : World), (Instr.index 9 (.string t) (.int .i64 0)).run Tryd.prog w = .ok (.int .u8 c) w := ix
                clear ix
                go_wp2
                exact bodyPost_ret (v := .tuple #[.int .i64 0, .bool false]) (by simp [results, Tryd.results78, go_sem]) rfl ⟨by rw [HE.out]; rfl, (by repeat (first | exact Below.refl _ _ | refine Below.drew ?_ | refine Below.alloc ?_ (by first | exact Nat.le_refl _ | (simp; done) | (simp; omega) | omega) _ | refine Below.more ?_ (by first | exact Nat.le_refl _ | (simp; done) | (simp; omega) | omega) _ _ | refine Below.setCell ?_ (by first | exact Nat.le_refl _ | (simp; done) | (simp; omega) | omega) _ | assumption))⟩
              · have hk2 : ¬ (k : Int) = 0 := by omega
                go_wp2
                exact bodyPost_ret (v := .tuple #[.int .i64 0, .bool false]) (by simp [results, Tryd.results78, go_sem]) rfl ⟨by rw [HE.out]; rfl, (by repeat (first | exact Below.refl _ _ | refine Below.drew ?_ | refine Below.alloc ?_ (by first | exact Nat.le_refl _ | (simp; done) | (simp; omega) | omega) _ | refine Below.more ?_ (by first | exact Nat.le_refl _ | (simp; done) | (simp; omega) | omega) _ _ | refine Below.setCell ?_ (by first | exact Nat.le_refl _ | (simp; done) | (simp; omega) | omega) _ | assumption))⟩
            · by_cases g2 : 9 < x
              by_cases hk0 : k = 0
              · have hb' : b = false := by
                  cases b
                  · rfl
                  · exact absurd ⟨rfl, hk0⟩ HK.out
                subst hb' hk0
                have ix1 : ∀ (w : World), (Instr.index 9 (.string t) (.int .i64 0)).run Tryd.prog w = .ok (.int .u8 c) w := ix
                clear ix
                go_wp2
                exact bodyPost_ret (v := .tuple #[.int .i64 0, .bool false]) (by simp [results, Tryd.results78, go_sem]) rfl ⟨by rw [HE.out]; rfl, (by repeat (first | exact Below.refl _ _ | refine Below.drew ?_ | refine Below.alloc ?_ (by first | exact Nat.le_refl _ | (simp; done) | (simp; omega) | omega) _ | refine Below.more ?_ (by first | exact Nat.le_refl _ | (simp; done) | (simp; omega) | omega) _ _ | refine Below.setCell ?_ (by first | exact Nat.le_refl _ | (simp; done) | (simp; omega) | omega) _ | assumption))⟩
              · have hk2 : ¬ (k : Int) = 0 := by omega
                go_wp2
                exact bodyPost_ret (v := .tuple #[.int .i64 0, .bool false]) (by simp [results, Tryd.results78, go_sem]) rfl ⟨by rw [HE.out]; rfl, (by repeat (first | exact Below.refl _ _ | refine Below.drew ?_ | refine Below.alloc ?_ (by first | exact Nat.le_refl _ | (simp; done) | (simp; omega) | omega) _ | refine Below.more ?_ (by first | exact Nat.le_refl _ | (simp; done) | (simp; omega) | omega) _ _ | refine Below.setCell ?_ (by first | exact Nat.le_refl _ | (simp; done) | (simp; omega) | omega) _ | assumption))⟩
              · have g3 : 12 < t.size := by
                  rcases Nat.lt_or_ge 12 t.size with h | h
                  · exact h
                  · exact absurd ⟨⟨by omega, by omega⟩, h⟩ HG.out
                have g4 : (12 : Int) < (t.size : Int) := by omega
                by_cases hk0 : k = 0
                · have hb' : b = false := by
                    cases b
                    · rfl
                    · exact absurd ⟨rfl, hk0⟩ HK.out
                  subst hb' hk0
                  have ix1 : ∀ (w : World), (Instr.index 9 (.string t) (.int .i64 0)).run Tryd.prog w = .ok (.int .u8 c) w := ix
                  clear ix
                  go_wp2
                  exact bodyPost_ret (v := .tuple #[.int .i64 0, .bool false]) (by simp [results, Tryd.results78, go_sem]) rfl ⟨by rw [HE.out]; rfl, (by repeat (first | exact Below.refl _ _ | refine Below.drew ?_ | refine Below.alloc ?_ (by first | exact Nat.le_refl _ | (simp; done) | (simp; omega) | omega) _ | refine Below.more ?_ (by first | exact Nat.le_refl _ | (simp; done) | (simp; omega) | omega) _ _ | refine Below.setCell ?_ (by first | exact Nat.le_refl _ | (simp; done) | (simp; omega) | omega) _ | assumption))⟩
                · have hk2 : ¬ (k : Int) = 0 := by omega
                  go_wp2
                  exact bodyPost_ret (v := .tuple #[.int .i64 0, .bool false]) (by simp [results, Tryd.results78, go_sem]) rfl ⟨by rw [HE.out]; rfl, (by repeat (first | exact Below.refl _ _ | refine Below.drew ?_ | refine Below.alloc ?_ (by first | exact Nat.le_refl _ | (simp; done) | (simp; omega) | omega) _ | refine Below.more ?_ (by first | exact Nat.le_refl _ | (simp; done) | (simp; omega) | omega) _ _ | refine Below.setCell ?_ (by first | exact Nat.le_refl _ | (simp; done) | (simp; omega) | omega) _ | assumption))⟩
      · obtain rfl : k = t.size := by omega
        have hk1 : ¬ (t.size : Int) < (t.size : Int) := by omega
        have hlt := upTo_small hdig (show t.size ≤ 12 from by
          by_cases h : 1 < t.size
          · exact hsz h
          · omega)
        have HV := parseI_end (v := if b = true then -(upTo t b t.size : Int) else (upTo t b t.size : Int)) HNE.out (by rw [HBB.out])
        generalize upTo t b t.size = n at hlt HV ⊢
        clear hdig hsz hk hp
        have hnw : IntKind.i64.wrap (-(n : Int)) = -(n : Int) := IntWalk.i64_in _ (by omega)
        obtain ⟨v, hv⟩ : ∃ v : Int, v = if b = true then -(n : Int) else (n : Int) := ⟨_, rfl⟩
        rw [← hv] at HV
        have hvb : -9223372036854775808 ≤ v ∧ v ≤ 9223372036854775807 := by rw [hv]; split <;> omega
        have HF := Lib.hid (fun W => spec_FormatInt_c v W hvb)
        clear hvb hlt
        by_cases he : fmtB v = t
        · rw [if_pos he] at HV
          rw [he] at HF
          have HR := Lib.hid HV
          clear HV he
          cases b
          · rw [if_neg (by simp)] at hv
            subst hv
            go_wp2_with (go_at_call 53; refine (HF.out _).mono ?_; rintro e wn ⟨rfl, hbn⟩; obtain ⟨X, nX, rfl⟩ := Below.ext hbn; clear hbn)
            exact bodyPost_ret (v := .tuple #[.int .i64 n, .bool true]) (by simp [results, Tryd.results78, go_sem]) rfl ⟨by rw [HR.out]; rfl, (by repeat (first | exact Below.refl _ _ | refine Below.drew ?_ | refine Below.alloc ?_ (by first | exact Nat.le_refl _ | (simp; done) | (simp; omega) | omega) _ | refine Below.more ?_ (by first | exact Nat.le_refl _ | (simp; done) | (simp; omega) | omega) _ _ | refine Below.setCell ?_ (by first | exact Nat.le_refl _ | (simp; done) | (simp; omega) | omega) _ | assumption))⟩
          · rw [if_pos rfl] at hv
            subst hv
            go_wp2_with (go_at_call 53; refine (HF.out _).mono ?_; rintro e wn ⟨rfl, hbn⟩; obtain ⟨X, nX, rfl⟩ := Below.ext hbn; clear hbn)
            exact bodyPost_ret (v := .tuple #[.int .i64 (-(n : Int)), .bool true]) (by simp [results, Tryd.results78, go_sem]) rfl ⟨by rw [HR.out]; rfl, (by repeat (first | exact Below.refl _ _ | refine Below.drew ?_ | refine Below.alloc ?_ (by first | exact Nat.le_refl _ | (simp; done) | (simp; omega) | omega) _ | refine Below.more ?_ (by first | exact Nat.le_refl _ | (simp; done) | (simp; omega) | omega) _ _ | refine Below.setCell ?_ (by first | exact Nat.le_refl _ | (simp; done) | (simp; omega) | omega) _ | assumption))⟩
        · rw [if_neg he] at HV
          have HR := Lib.hid HV
          have he2 : ¬ (fmtB v).toList = t.toList := fun h => he (by rw [Lib.toList_data, Lib.toList_data] at h; rw [ba_eq h])
          have he3 : ¬ t.toList = (fmtB v).toList := fun h => he2 h.symm
          have he4 : ((fmtB v).toList == t.toList) = false := beq_eq_false_iff_ne.2 he2
          clear HV he
          generalize fmtB v = tv at *
          cases b
          · rw [if_neg (by simp)] at hv
            subst hv
            go_wp2_with (go_at_call 53; refine (HF.out _).mono ?_; rintro e wn ⟨rfl, hbn⟩; obtain ⟨X, nX, rfl⟩ := Below.ext hbn; clear hbn)
            exact bodyPost_ret (v := .tuple #[.int .i64 0, .bool false]) (by simp [results, Tryd.results78, go_sem]) rfl ⟨by rw [HR.out]; rfl, (by repeat (first | exact Below.refl _ _ | refine Below.drew ?_ | refine Below.alloc ?_ (by first | exact Nat.le_refl _ | (simp; done) | (simp; omega) | omega) _ | refine Below.more ?_ (by first | exact Nat.le_refl _ | (simp; done) | (simp; omega) | omega) _ _ | refine Below.setCell ?_ (by first | exact Nat.le_refl _ | (simp; done) | (simp; omega) | omega) _ | assumption))⟩
          · rw [if_pos rfl] at hv
            subst hv
            go_wp2_with (go_at_call 53; refine (HF.out _).mono ?_; rintro e wn ⟨rfl, hbn⟩; obtain ⟨X, nX, rfl⟩ := Below.ext hbn; clear hbn)
            exact bodyPost_ret (v := .tuple #[.int .i64 0, .bool false]) (by simp [results, Tryd.results78, go_sem]) rfl ⟨by rw [HR.out]; rfl, (by repeat (first | exact Below.refl _ _ | refine Below.drew ?_ | refine Below.alloc ?_ (by first | exact Nat.le_refl _ | (simp; done) | (simp; omega) | omega) _ | refine Below.more ?_ (by first | exact Nat.le_refl _ | (simp; done) | (simp; omega) | omega) _ _ | refine Below.setCell ?_ (by first | exact Nat.le_refl _ | (simp; done) | (simp; omega) | omega) _ | assumption))⟩
end Go.Proofs.YtdkjiafdfenbkaaDoor
