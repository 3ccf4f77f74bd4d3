/- Contracts of FormatInts. -/
import Derived.Test.YtdkjiafdfenbkaaDoorFmt
import Derived.Test.YtdkjiafdfenbkaaDoorJoin
import Derived.Test.YtdkjiafdfenbkaaDoorSInt
import Derived.Test.YtdkjiafdfenbkaaDoorAppend
import Derived.Test.YtdkjiafdfenbkaaDoorAppInt
namespace Go.Proofs.YtdkjiafdfenbkaaDoor
open Go Go.RowKit
set_option linter.unusedVariables false
/-- A variable reads the same behind what leaves old memory alone. -/
theorem var?_kept {P : Program} {w w' : World} {n : String} {cs : Array Value} (hv : w.var? P n = some cs) (h : Below w.heap.size w w') : w'.var? P n = some cs := by
  unfold World.var? at hv ⊢
  cases hg : P.globalNamed n with
  | none => rw [hg] at hv; cases hv
  | some g =>
    simp only [hg, Option.bind_some] at hv ⊢
    by_cases hlt : g < w.heap.size
    · rw [h.block g hlt]; exact hv
    · rw [Array.getElem?_eq_none (by omega)] at hv; cases hv
theorem Tab.below {w w' : World} (h : Tab w) (hb : Below w.heap.size w w') : Tab w' := var?_kept (show w.var? _ _ = some _ from h) hb
/-- The numbers' texts, separated by commas. -/
def fmtsB (l : List Int) : ByteArray := if l.isEmpty then ⟨#[45]⟩ else if l.all fmtOk then joinB (l.map fmtB) ⟨#[44]⟩ else ⟨#[]⟩
theorem fmts_no {l : List Int} {k : Nat} (hk : k < l.length) (h : fmtOk (l.getD k 0) = false) : fmtsB l = ⟨#[]⟩ := by
  unfold fmtsB
  have h1 : l.isEmpty = false := by cases l <;> simp at hk ⊢
  have h2 : l.all fmtOk = false := by
    rw [List.all_eq_false]
    refine ⟨l.getD k 0, ?_, by rw [h]; simp⟩
    rw [List.getD_eq_getElem?_getD, List.getElem?_eq_getElem hk]
    exact List.getElem_mem hk
  rw [h1, h2]; rfl
theorem fmts_take {l : List Int} {k : Nat} (hk : k < l.length) : (l.take (k + 1)).map fmtB = (l.take k).map fmtB ++ [fmtB (l.getD k 0)] := by
  rw [List.take_succ_eq_append_getElem hk, List.getD_eq_getElem?_getD, List.getElem?_eq_getElem hk, List.map_append]
  rfl
/-- The cells of the texts so far. -/
def fmtC (l : List Int) (k : Nat) : List Value := ((l.take k).map fmtB).map .string
theorem fmtC_succ {l : List Int} {k : Nat} (hk : k < l.length) : fmtC l (k + 1) = fmtC l k ++ [.string (fmtB (l.getD k 0))] := by
  unfold fmtC
  rw [fmts_take hk, List.map_append]; rfl
theorem fmts_yes {l : List Int} (h0 : 0 < l.length) (h : ∀ k, k < l.length → fmtOk (l.getD k 0) = true) : fmtsB l = joinB (l.map fmtB) ⟨#[44]⟩ := by
  unfold fmtsB
  have h1 : l.isEmpty = false := by cases l <;> simp at h0 ⊢
  have h2 : l.all fmtOk = true := by
    rw [List.all_eq_true]
    intro x hx
    obtain ⟨i, hi, rfl⟩ := List.getElem_of_mem hx
    have := h i hi
    rwa [List.getD_eq_getElem?_getD, List.getElem?_eq_getElem hi] at this
  rw [h1, h2]; rfl
theorem str_at {ts : List ByteArray} : ∀ i, i < ts.length → ∀ j, j < 1 → (ts.map Value.string)[i * 1 + j]? = (stringAt ts i)[j]? := by
  intro i hi j hj
  obtain rfl : j = 0 := by omega
  rw [Nat.mul_one, Nat.add_zero]
  simp [stringAt, hi]
set_option maxRecDepth 100000 in
set_option maxHeartbeats 2000000 in
theorem impl_FormatInts_c (a : Option Addr) (cap : Nat) (l : List Int) (n : Nat) (HN : Hid (l.length = n)) (w : World) (hr : Sl w a 1 n (intAt l)) (hn : n ≤ 1000) (hT : Tab w) (hb : ∀ k, k < n → -9223372036854775808 ≤ l.getD k 0 ∧ l.getD k 0 ≤ 9223372036854775807) :
    Calls Tryd.prog 36 #[.slice a n cap] w fun e w' => e = .returned (.string (fmtsB l)) ∧ Below w.heap.size w w' := by
  obtain ⟨i0, hi, hz0, hz1, hz2⟩ := info_parts info_String
  have HR := Lib.hid hr
  have HT := Lib.hid hT
  have HBD := Lib.hid hb
  clear hr hT hb
  by_cases h00 : n = 0
  · subst h00
    have HE := Lib.hid (show fmtsB l = ⟨#[45]⟩ by rw [List.eq_nil_of_length_eq_zero HN.out]; rfl)
    clear HN
    go_enter Tryd.func36, Tryd.ntmps36
    go_wp2
    go_ret
    exact ⟨by rw [HE.out]; rfl, (by repeat (first | exact Below.refl _ _ | refine Below.drew ?_ | refine Below.alloc ?_ (by first | exact Nat.le_refl _ | (simp; done) | (simp; omega) | omega) _ | refine Below.more ?_ (by first | exact Nat.le_refl _ | (simp; done) | (simp; omega) | omega) _ _ | refine Below.setCell ?_ (by first | exact Nat.le_refl _ | (simp; done) | (simp; omega) | omega) _ | assumption))⟩
  · have hn0 : ¬ (n : Int) = 0 := by omega
    have hn0' : ((n : Int) == 0) = false := by simp; omega
    go_enter Tryd.func36, Tryd.ntmps36
    go_wp2
    go_loopw [3, 13] (fun out i wr => ∃ k : Nat, k ≤ n ∧ i = .int .i64 k ∧ Below w.heap.size w wr ∧ wr.ownsRow w.heap.size 9 1 out k (fmtC l k) ∧ ∀ j, j < k → fmtOk (l.getD j 0) = true) (fun _ i _ => n - (intOf i).toNat)
    case atStart =>
      refine ⟨0, by omega, rfl, (by repeat (first | exact Below.refl _ _ | refine Below.drew ?_ | refine Below.alloc ?_ (by first | exact Nat.le_refl _ | (simp; done) | (simp; omega) | omega) _ | refine Below.more ?_ (by first | exact Nat.le_refl _ | (simp; done) | (simp; omega) | omega) _ _ | refine Below.setCell ?_ (by first | exact Nat.le_refl _ | (simp; done) | (simp; omega) | omega) _ | assumption)), ?_, fun j hj => absurd hj (Nat.not_lt_zero _)⟩
      simpa [fmtC] using World.ownsRow_made (e := 9) (size := 1) w #[] 0 (Nat.le_refl _) (by decide) (by simp)
    case round =>
      obtain ⟨k, hk, rfl, hbel, hown, hall⟩ := hrel
      have HBEL := Lib.hid hbel
      have HOWN := Lib.hid hown
      have HALL := Lib.hid hall
      have hsz := hbel.size
      clear hbel hown hall
      by_cases hlt : k < n
      · have hk1 : (k : Int) < (n : Int) := by omega
        obtain ⟨b, o, rfl, hb, hc⟩ := (HR.out.below HBEL.out) (by omega)
        have c0 : wr.cell? ⟨b, o + k, none⟩ = some (.int .i64 (l.getD k 0)) := by have := hc k hlt 0 (by omega); rw [Nat.mul_one, Nat.add_zero] at this; exact this
        clear hc
        have hbd := HBD.out k hlt
        have HST := Lib.hid (fmtC_succ (l := l) (k := k) (by rw [HN.out]; exact hlt))
        have HNO := Lib.hid (fun h => fmts_no (l := l) (k := k) (by rw [HN.out]; exact hlt) h)
        have HYES := Lib.hid (show fmtOk (l.getD k 0) = true → ∀ j, j < k + 1 → fmtOk (l.getD j 0) = true from fun h j hj => by
          by_cases hjk : j = k
          · rw [hjk]; exact h
          · exact HALL.out j (by omega))
        have HEM := Lib.hid (fun x => fmtB_empty (n := x))
        generalize l.getD k 0 = x at *
        have HFI := Lib.hid (fun W (h : Below w.heap.size w W) => impl_FormatInt_c x W (HT.out.below h))
        cases hok : fmtOk x
        · have he : fmtB x = ⟨#[]⟩ := (HEM.out x).2 hok
          rw [he] at HFI
          go_wp2_with fail
          refine (HFI.out _ (HBEL.out.trans (by repeat (first | exact Below.refl _ _ | refine Below.drew ?_ | refine Below.alloc ?_ (by first | exact Nat.le_refl _ | (simp; done) | (simp; omega) | omega) _ | refine Below.more ?_ (by first | exact Nat.le_refl _ | (simp; done) | (simp; omega) | omega) _ _ | refine Below.setCell ?_ (by first | exact Nat.le_refl _ | (simp; done) | (simp; omega) | omega) _ | assumption)))).mono ?_
          rintro e wn ⟨rfl, hbn⟩; obtain ⟨X, nX, rfl⟩ := Below.ext hbn; clear hbn
          go_wp2
          go_ret
          exact ⟨by rw [HNO.out hok]; rfl, HBEL.out.trans (Below.mono (show Below wr.heap.size wr _ from (by repeat (first | exact Below.refl _ _ | refine Below.drew ?_ | refine Below.alloc ?_ (by first | exact Nat.le_refl _ | (simp; done) | (simp; omega) | omega) _ | refine Below.more ?_ (by first | exact Nat.le_refl _ | (simp; done) | (simp; omega) | omega) _ _ | refine Below.setCell ?_ (by first | exact Nat.le_refl _ | (simp; done) | (simp; omega) | omega) _ | assumption))) hsz)⟩
        · have hne : ¬ (fmtB x).toList = [] := fun e => by
            rw [Lib.toList_data] at e
            rw [(HEM.out x).1 (ba_eq e)] at hok; cases hok
          have hne2 : (fmtB x).toList.isEmpty = false := by cases h : (fmtB x).toList with | nil => exact absurd h hne | cons a l => rfl
          generalize fmtB x = tx at *
          go_wp2_with fail
          refine (HFI.out _ (HBEL.out.trans (by repeat (first | exact Below.refl _ _ | refine Below.drew ?_ | refine Below.alloc ?_ (by first | exact Nat.le_refl _ | (simp; done) | (simp; omega) | omega) _ | refine Below.more ?_ (by first | exact Nat.le_refl _ | (simp; done) | (simp; omega) | omega) _ _ | refine Below.setCell ?_ (by first | exact Nat.le_refl _ | (simp; done) | (simp; omega) | omega) _ | assumption)))).mono ?_
          rintro e wn ⟨rfl, hbn⟩; obtain ⟨X, nX, rfl⟩ := Below.ext hbn; clear hbn
          go_wp2_with ((at_builtin; go_loud (refine wpList_append_own _ rfl _ _ 116 rfl w.heap.size 9 i0 _ 1 16 Tryd.underlying116 hi hz0 hz1 hz2 rfl (by decide) _ k _ rfl (own_kept HOWN.out (by repeat (first | exact Below.refl _ _ | refine Below.drew ?_ | refine Below.alloc ?_ (by first | exact Nat.le_refl _ | (simp; done) | (simp; omega) | omega) _ | refine Below.more ?_ (by first | exact Nat.le_refl _ | (simp; done) | (simp; omega) | omega) _ _ | refine Below.setCell ?_ (by first | exact Nat.le_refl _ | (simp; done) | (simp; omega) | omega) _ | assumption))) _ 1 1 [.string tx] rfl rfl ?b2 ?b3 ?b4 ?b5 ?b6 ?_)))
          case b2 =>
            intro j u hu
            match j, hu with
            | 0, hu =>
              obtain rfl : Value.string tx = u := by simpa using hu
              simp [go_sem]
            | j + 1, hu => simp at hu
          case b3 =>
            intro u hu
            obtain rfl : u = Value.string tx := by simpa using hu
            rfl
          case b4 => simp only [maxLen]; omega
          case b5 => omega
          case b6 => first | omega | (simp; omega)
          intro v' w' hp' hg' _
          have HP' := Lib.hid hp'
          have HB' := Lib.hid (Below.grown (Below.trans HBEL.out (Below.mono (show Below wr.heap.size wr _ from (by repeat (first | exact Below.refl _ _ | refine Below.drew ?_ | refine Below.alloc ?_ (by first | exact Nat.le_refl _ | (simp; done) | (simp; omega) | omega) _ | refine Below.more ?_ (by first | exact Nat.le_refl _ | (simp; done) | (simp; omega) | omega) _ _ | refine Below.setCell ?_ (by first | exact Nat.le_refl _ | (simp; done) | (simp; omega) | omega) _ | assumption))) hsz)) hg' (by first | omega | (simp; omega)) (fun q hq => (HOWN.out.lt q hq).1))
          clear hp' hg'
          go_wp2
          go_roundw
          case rel => exact ⟨k + 1, by omega, by go_num, HB'.out, by rw [HST.out]; exact HP'.out, HYES.out hok⟩
          case measure => simp [intOf]; omega
      · obtain rfl : k = n := by omega
        have hnl : ¬ (k : Int) < (k : Int) := by omega
        obtain ⟨oa, oc, ho, hoc⟩ := ow_of_ownsRow_cap (C := stringAt (l.map fmtB)) (show wr.ownsRow w.heap.size 9 1 u3 k (((l.take k).map fmtB).map .string) from HOWN.out) (by
          have e : (l.take k).map fmtB = l.map fmtB := by rw [List.take_of_length_le (by rw [HN.out]; omega)]
          rw [e]
          intro i hi
          exact str_at i (by rw [List.length_map, HN.out]; exact hi))
        obtain ⟨rfl, HO1, HO2⟩ : u3 = Value.slice oa k oc ∧ Hid (Ow wr w.heap.size wr.heap.size oa 1 k (stringAt (l.map fmtB))) ∧ Hid (k ≤ oc) := ⟨ho, Lib.hid hoc.1, Lib.hid hoc.2⟩
        have HRES := Lib.hid (fmts_yes (l := l) (by rw [HN.out]; omega) (fun j hj => HALL.out j (by rw [HN.out] at hj; exact hj)))
        have HTS := Lib.hid (show (l.map fmtB).length = k by rw [List.length_map]; exact HN.out)
        have HSM := Lib.hid (show ∀ t ∈ l.map fmtB, t.size ≤ 1048576 from fun t ht => by
          obtain ⟨x, _, rfl⟩ := List.mem_map.1 ht
          have := fmtB_len x
          omega)
        clear ho hoc
        go_wp2_with fail
        refine (impl_Join_c oa oc (l.map fmtB) k HTS ⟨#[44]⟩ _ HO1.out.sl (by omega) HO2.out HSM.out (by decide)).mono ?_
        rintro e w' ⟨rfl, HBJ⟩
        have HBJ2 := Lib.hid HBJ
        go_wp2
        go_ret
        exact ⟨by rw [HRES.out]; rfl, HBEL.out.trans (HBJ2.out.mono hsz)⟩
set_option maxRecDepth 100000 in
set_option maxHeartbeats 2000000 in
theorem spec_FormatInts_c (a : Option Addr) (cap : Nat) (l : List Int) (n : Nat) (HN : Hid (l.length = n)) (w : World) (hr : Sl w a 1 n (intAt l)) (hn : n ≤ 1000) (hT : Tab w) (hb : ∀ k, k < n → -9223372036854775808 ≤ l.getD k 0 ∧ l.getD k 0 ≤ 9223372036854775807) :
    Calls Tryd.prog 35 #[.slice a n cap] w fun e w' => e = .returned (.string (fmtsB l)) ∧ Below w.heap.size w w' := by
  obtain ⟨i0, hi, hz0, hz1, hz2⟩ := info_parts info_String
  have HR := Lib.hid hr
  have HT := Lib.hid hT
  have HBD := Lib.hid hb
  clear hr hT hb
  by_cases h00 : n = 0
  · subst h00
    have HE := Lib.hid (show fmtsB l = ⟨#[45]⟩ by rw [List.eq_nil_of_length_eq_zero HN.out]; rfl)
    clear HN
    go_enter Tryd.func35, Tryd.ntmps35
    go_wp2
    go_rounds 1
    go_ret
    exact ⟨by rw [HE.out]; rfl, (by repeat (first | exact Below.refl _ _ | refine Below.drew ?_ | refine Below.alloc ?_ (by first | exact Nat.le_refl _ | (simp; done) | (simp; omega) | omega) _ | refine Below.more ?_ (by first | exact Nat.le_refl _ | (simp; done) | (simp; omega) | omega) _ _ | refine Below.setCell ?_ (by first | exact Nat.le_refl _ | (simp; done) | (simp; omega) | omega) _ | assumption))⟩
  · have hn0 : ¬ (n : Int) = 0 := by omega
    have hn0' : ((n : Int) == 0) = false := by simp; omega
    go_enter Tryd.func35, Tryd.ntmps35
    go_wp2
    go_loopw [3, 9] (fun out i wr => ∃ k : Nat, k ≤ n ∧ i = .int .i64 k ∧ Below w.heap.size w wr ∧ wr.ownsRow w.heap.size 9 1 out k (fmtC l k) ∧ ∀ j, j < k → fmtOk (l.getD j 0) = true) (fun _ i _ => n - (intOf i).toNat)
    case atStart =>
      refine ⟨0, by omega, rfl, (by repeat (first | exact Below.refl _ _ | refine Below.drew ?_ | refine Below.alloc ?_ (by first | exact Nat.le_refl _ | (simp; done) | (simp; omega) | omega) _ | refine Below.more ?_ (by first | exact Nat.le_refl _ | (simp; done) | (simp; omega) | omega) _ _ | refine Below.setCell ?_ (by first | exact Nat.le_refl _ | (simp; done) | (simp; omega) | omega) _ | assumption)), ?_, fun j hj => absurd hj (Nat.not_lt_zero _)⟩
      simpa [fmtC] using World.ownsRow_made (e := 9) (size := 1) w #[] 0 (Nat.le_refl _) (by decide) (by simp)
    case round =>
      obtain ⟨k, hk, rfl, hbel, hown, hall⟩ := hrel
      have HBEL := Lib.hid hbel
      have HOWN := Lib.hid hown
      have HALL := Lib.hid hall
      have hsz := hbel.size
      clear hbel hown hall
      by_cases hlt : k < n
      · have hk1 : (k : Int) < (n : Int) := by omega
        obtain ⟨b, o, rfl, hb, hc⟩ := (HR.out.below HBEL.out) (by omega)
        have c0 : wr.cell? ⟨b, o + k, none⟩ = some (.int .i64 (l.getD k 0)) := by have := hc k hlt 0 (by omega); rw [Nat.mul_one, Nat.add_zero] at this; exact this
        clear hc
        have hbd := HBD.out k hlt
        have HST := Lib.hid (fmtC_succ (l := l) (k := k) (by rw [HN.out]; exact hlt))
        have HNO := Lib.hid (fun h => fmts_no (l := l) (k := k) (by rw [HN.out]; exact hlt) h)
        have HYES := Lib.hid (show fmtOk (l.getD k 0) = true → ∀ j, j < k + 1 → fmtOk (l.getD j 0) = true from fun h j hj => by
          by_cases hjk : j = k
          · rw [hjk]; exact h
          · exact HALL.out j (by omega))
        have HEM := Lib.hid (fun x => fmtB_empty (n := x))
        generalize l.getD k 0 = x at *
        have HFI := Lib.hid (fun W (h : Below w.heap.size w W) => spec_FormatInt_c x W hbd)
        cases hok : fmtOk x
        · have he : fmtB x = ⟨#[]⟩ := (HEM.out x).2 hok
          rw [he] at HFI
          go_wp2_with fail
          refine (HFI.out _ (HBEL.out.trans (by repeat (first | exact Below.refl _ _ | refine Below.drew ?_ | refine Below.alloc ?_ (by first | exact Nat.le_refl _ | (simp; done) | (simp; omega) | omega) _ | refine Below.more ?_ (by first | exact Nat.le_refl _ | (simp; done) | (simp; omega) | omega) _ _ | refine Below.setCell ?_ (by first | exact Nat.le_refl _ | (simp; done) | (simp; omega) | omega) _ | assumption)))).mono ?_
          rintro e wn ⟨rfl, hbn⟩; obtain ⟨X, nX, rfl⟩ := Below.ext hbn; clear hbn
          go_wp2
          go_ret
          exact ⟨by rw [HNO.out hok]; rfl, HBEL.out.trans (Below.mono (show Below wr.heap.size wr _ from (by repeat (first | exact Below.refl _ _ | refine Below.drew ?_ | refine Below.alloc ?_ (by first | exact Nat.le_refl _ | (simp; done) | (simp; omega) | omega) _ | refine Below.more ?_ (by first | exact Nat.le_refl _ | (simp; done) | (simp; omega) | omega) _ _ | refine Below.setCell ?_ (by first | exact Nat.le_refl _ | (simp; done) | (simp; omega) | omega) _ | assumption))) hsz)⟩
        · have hne : ¬ (fmtB x).toList = [] := fun e => by
            rw [Lib.toList_data] at e
            rw [(HEM.out x).1 (ba_eq e)] at hok; cases hok
          have hne2 : (fmtB x).toList.isEmpty = false := by cases h : (fmtB x).toList with | nil => exact absurd h hne | cons a l => rfl
          generalize fmtB x = tx at *
          go_wp2_with fail
          refine (HFI.out _ (HBEL.out.trans (by repeat (first | exact Below.refl _ _ | refine Below.drew ?_ | refine Below.alloc ?_ (by first | exact Nat.le_refl _ | (simp; done) | (simp; omega) | omega) _ | refine Below.more ?_ (by first | exact Nat.le_refl _ | (simp; done) | (simp; omega) | omega) _ _ | refine Below.setCell ?_ (by first | exact Nat.le_refl _ | (simp; done) | (simp; omega) | omega) _ | assumption)))).mono ?_
          rintro e wn ⟨rfl, hbn⟩; obtain ⟨X, nX, rfl⟩ := Below.ext hbn; clear hbn
          go_wp2_with (first | (go_at_call 53; refine (HFI.out _ (HBEL.out.trans (Below.mono (show Below wr.heap.size wr _ from (by repeat (first | exact Below.refl _ _ | refine Below.drew ?_ | refine Below.alloc ?_ (by first | exact Nat.le_refl _ | (simp; done) | (simp; omega) | omega) _ | refine Below.more ?_ (by first | exact Nat.le_refl _ | (simp; done) | (simp; omega) | omega) _ _ | refine Below.setCell ?_ (by first | exact Nat.le_refl _ | (simp; done) | (simp; omega) | omega) _ | assumption))) hsz))).mono ?_; rintro e wn ⟨rfl, hbn⟩; obtain ⟨X, nX, rfl⟩ := Below.ext hbn; clear hbn) | (at_builtin; go_loud (refine wpList_append_own _ rfl _ _ 116 rfl w.heap.size 9 i0 _ 1 16 Tryd.underlying116 hi hz0 hz1 hz2 rfl (by decide) _ k _ rfl (own_kept HOWN.out (by repeat (first | exact Below.refl _ _ | refine Below.drew ?_ | refine Below.alloc ?_ (by first | exact Nat.le_refl _ | (simp; done) | (simp; omega) | omega) _ | refine Below.more ?_ (by first | exact Nat.le_refl _ | (simp; done) | (simp; omega) | omega) _ _ | refine Below.setCell ?_ (by first | exact Nat.le_refl _ | (simp; done) | (simp; omega) | omega) _ | assumption))) _ 1 1 [.string tx] rfl rfl ?b2 ?b3 ?b4 ?b5 ?b6 ?_)))
          case b2 =>
            intro j u hu
            match j, hu with
            | 0, hu =>
              obtain rfl : Value.string tx = u := by simpa using hu
              simp [go_sem]
            | j + 1, hu => simp at hu
          case b3 =>
            intro u hu
            obtain rfl : u = Value.string tx := by simpa using hu
            rfl
          case b4 => simp only [maxLen]; omega
          case b5 => omega
          case b6 => first | omega | (simp; omega)
          intro v' w' hp' hg' _
          have HP' := Lib.hid hp'
          have HB' := Lib.hid (Below.grown (Below.trans HBEL.out (Below.mono (show Below wr.heap.size wr _ from (by repeat (first | exact Below.refl _ _ | refine Below.drew ?_ | refine Below.alloc ?_ (by first | exact Nat.le_refl _ | (simp; done) | (simp; omega) | omega) _ | refine Below.more ?_ (by first | exact Nat.le_refl _ | (simp; done) | (simp; omega) | omega) _ _ | refine Below.setCell ?_ (by first | exact Nat.le_refl _ | (simp; done) | (simp; omega) | omega) _ | assumption))) hsz)) hg' (by first | omega | (simp; omega)) (fun q hq => (HOWN.out.lt q hq).1))
          clear hp' hg'
          go_wp2
          go_roundw
          case rel => exact ⟨k + 1, by omega, by go_num, HB'.out, by rw [HST.out]; exact HP'.out, HYES.out hok⟩
          case measure => simp [intOf]; omega
      · obtain rfl : k = n := by omega
        have hnl : ¬ (k : Int) < (k : Int) := by omega
        obtain ⟨oa, oc, ho, hoc⟩ := ow_of_ownsRow_cap (C := stringAt (l.map fmtB)) (show wr.ownsRow w.heap.size 9 1 u3 k (((l.take k).map fmtB).map .string) from HOWN.out) (by
          have e : (l.take k).map fmtB = l.map fmtB := by rw [List.take_of_length_le (by rw [HN.out]; omega)]
          rw [e]
          intro i hi
          exact str_at i (by rw [List.length_map, HN.out]; exact hi))
        obtain ⟨rfl, HO1, HO2⟩ : u3 = Value.slice oa k oc ∧ Hid (Ow wr w.heap.size wr.heap.size oa 1 k (stringAt (l.map fmtB))) ∧ Hid (k ≤ oc) := ⟨ho, Lib.hid hoc.1, Lib.hid hoc.2⟩
        have HRES := Lib.hid (fmts_yes (l := l) (by rw [HN.out]; omega) (fun j hj => HALL.out j (by rw [HN.out] at hj; exact hj)))
        have HTS := Lib.hid (show (l.map fmtB).length = k by rw [List.length_map]; exact HN.out)
        have HSM := Lib.hid (show ∀ t ∈ l.map fmtB, t.size ≤ 1048576 from fun t ht => by
          obtain ⟨x, _, rfl⟩ := List.mem_map.1 ht
          have := fmtB_len x
          omega)
        clear ho hoc
        go_wp2_with fail
        refine (spec_Join_c oa oc (l.map fmtB) k HTS ⟨#[44]⟩ _ HO1.out.sl (by omega) HSM.out (by decide)).mono ?_
        rintro e w' ⟨rfl, HBJ⟩
        have HBJ2 := Lib.hid (show Below wr.heap.size wr w' from by rw [HBJ]; exact Below.refl _ _)
        go_wp2
        go_ret
        exact ⟨by rw [HRES.out]; rfl, HBEL.out.trans (HBJ2.out.mono hsz)⟩
end Go.Proofs.YtdkjiafdfenbkaaDoor
