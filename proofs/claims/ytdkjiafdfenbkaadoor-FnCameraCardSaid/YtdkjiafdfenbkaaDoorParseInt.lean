/- Contracts of ParseInt. -/
import Derived.Test.YtdkjiafdfenbkaaDoorParseM
import Derived.Lib.AtoiErrMem
namespace Go.Proofs.YtdkjiafdfenbkaaDoor
open Go Go.RowKit
set_option linter.unusedVariables false
/-- What the library's table and its two errors hold. -/
structure Tabs (W : World) : Prop where
  tab : Tab W
  syn : ∃ tp p, W.var? Tryd.prog "strconv.ErrSyntax" = some #[.iface tp p]
  rng : ∃ tp p, W.var? Tryd.prog "strconv.ErrRange" = some #[.iface tp p]
theorem Tabs.below {w w' : World} (h : Tabs w) (hb : Below w.heap.size w w') : Tabs w' := by
  obtain ⟨h1, ⟨a, b, h2⟩, c, d, h3⟩ := h
  exact ⟨h1.below hb, ⟨a, b, var?_kept h2 hb⟩, c, d, var?_kept h3 hb⟩
/-- A number and whether it is one. -/
@[reducible] def optV (o : Option Int) : Value := .tuple #[.int .i64 (o.getD 0), .bool o.isSome]
theorem ba_nil {t : ByteArray} (h : t.toList = []) : t = ⟨#[]⟩ := by rw [Lib.toList_data] at h; exact ba_eq h
set_option maxRecDepth 100000 in
set_option maxHeartbeats 1000000 in
theorem impl_ParseInt_c (t : ByteArray) (w : World) (hT : Tabs w) (ht : t.size ≤ 1048576) :
    Calls Tryd.prog 80 #[.string t] w fun e w' => e = .returned (optV (parseI t)) ∧ Below w.heap.size w w' := by
  have HT := Lib.hid hT
  clear hT
  rcases ha : Lib.atoiAll t.data.toList with v | _ | _
  rotate_left
  ·
    obtain ⟨tp, p, hv⟩ := HT.out.syn
    have HR := Lib.hid (show parseI t = none by unfold parseI; rw [ha])
    have HA := Lib.hid (Tryd.strconv_Atoi_syntax_var t (by omega) ha tp p w hv)
    clear ha
    go_enter Tryd.func80, Tryd.ntmps80
    go_wp2_with (go_at_call 118; refine HA.out.mono ?_; rintro e w' ⟨N, rfl, hN, hc, hb⟩; have HB := Lib.hid hb; clear hb hc hN)
    exact bodyPost_ret (v := .tuple #[.int .i64 0, .bool false]) (by simp [results, Tryd.results80, go_sem]) rfl ⟨by rw [HR.out]; rfl, HB.out⟩
  ·
    obtain ⟨tp, p, hv⟩ := HT.out.rng
    have HR := Lib.hid (show parseI t = none by unfold parseI; rw [ha])
    have HA := Lib.hid (Tryd.strconv_Atoi_range_var t (by omega) ha tp p w hv)
    clear ha
    go_enter Tryd.func80, Tryd.ntmps80
    go_wp2_with (go_at_call 118; refine HA.out.mono ?_; rintro e w' ⟨N, rfl, hN, hc, hb⟩; have HB := Lib.hid hb; clear hb hc hN)
    exact bodyPost_ret (v := .tuple #[.int .i64 0, .bool false]) (by simp [results, Tryd.results80, go_sem]) rfl ⟨by rw [HR.out]; rfl, HB.out⟩
  ·
    have hne : ¬ t.toList = [] := fun h => by rw [ba_nil h] at ha; cases ha
    have hne2 : t.toList.isEmpty = false := by cases h : t.toList with
      | nil => exact absurd h hne
      | cons => rfl
    have HA := Lib.hid (Tryd.strconv_Atoi_ok t (by omega) v ha w)
    have HF := Lib.hid (fun W (hb : Below w.heap.size w W) => impl_FormatInt_c v W (HT.out.tab.below hb))
    by_cases he : fmtB v = t
    · have hok : fmtOk v = true := by
        cases h : fmtOk v
        · rw [fmtB_empty.2 h] at he
          exact absurd (by rw [← he, Lib.toList_data]) hne
        · rfl
      have HR := Lib.hid (show parseI t = some v by rw [← he]; exact parseI_some hok)
      rw [he] at HF
      clear ha he
      go_enter Tryd.func80, Tryd.ntmps80
      go_wp2_with (first | (go_at_call 118; refine HA.out.mono ?_; rintro e w' ⟨rfl, hw⟩; have HB := Lib.hid (show Below w.heap.size w w' by rcases hw with rfl | ⟨u, rfl⟩ <;> first | exact Below.refl _ _ | exact Lib.bytesWorld_below _ _ _); clear hw) | (go_at_call 55; refine (HF.out _ (HB.out.trans (by repeat (first | exact Below.refl _ _ | refine Below.drew ?_ | refine Below.alloc ?_ (by first | exact Nat.le_refl _ | (simp; done) | (simp; omega) | omega) _ | refine Below.more ?_ (by first | exact Nat.le_refl _ | (simp; done) | (simp; omega) | omega) _ _ | refine Below.setCell ?_ (by first | exact Nat.le_refl _ | (simp; done) | (simp; omega) | omega) _ | assumption)))).mono ?_; rintro e wn ⟨rfl, hbn⟩; obtain ⟨X, nX, rfl⟩ := Below.ext hbn; clear hbn))
      exact bodyPost_ret (v := .tuple #[.int .i64 v, .bool true]) (by simp [results, Tryd.results80, go_sem]) rfl ⟨by rw [HR.out]; rfl, HB.out.trans (Below.mono (show Below w'.heap.size w' _ from (by repeat (first | exact Below.refl _ _ | refine Below.drew ?_ | refine Below.alloc ?_ (by first | exact Nat.le_refl _ | (simp; done) | (simp; omega) | omega) _ | refine Below.more ?_ (by first | exact Nat.le_refl _ | (simp; done) | (simp; omega) | omega) _ _ | refine Below.setCell ?_ (by first | exact Nat.le_refl _ | (simp; done) | (simp; omega) | omega) _ | assumption))) HB.out.size)⟩
    · have HR := Lib.hid (show parseI t = none from by unfold parseI; rw [ha]; simp [he])
      have he2 : ¬ (fmtB v).toList = t.toList := fun h => he (by rw [Lib.toList_data, Lib.toList_data] at h; rw [ba_eq h])
      have he3 : ¬ t.toList = (fmtB v).toList := fun h => he2 h.symm
      have he4 : ((fmtB v).toList == t.toList) = false := beq_eq_false_iff_ne.2 he2
      generalize fmtB v = tv at *
      clear ha he
      go_enter Tryd.func80, Tryd.ntmps80
      go_wp2_with (first | (go_at_call 118; refine HA.out.mono ?_; rintro e w' ⟨rfl, hw⟩; have HB := Lib.hid (show Below w.heap.size w w' by rcases hw with rfl | ⟨u, rfl⟩ <;> first | exact Below.refl _ _ | exact Lib.bytesWorld_below _ _ _); clear hw) | (go_at_call 55; refine (HF.out _ (HB.out.trans (by repeat (first | exact Below.refl _ _ | refine Below.drew ?_ | refine Below.alloc ?_ (by first | exact Nat.le_refl _ | (simp; done) | (simp; omega) | omega) _ | refine Below.more ?_ (by first | exact Nat.le_refl _ | (simp; done) | (simp; omega) | omega) _ _ | refine Below.setCell ?_ (by first | exact Nat.le_refl _ | (simp; done) | (simp; omega) | omega) _ | assumption)))).mono ?_; rintro e wn ⟨rfl, hbn⟩; obtain ⟨X, nX, rfl⟩ := Below.ext hbn; clear hbn))
      exact bodyPost_ret (v := .tuple #[.int .i64 0, .bool false]) (by simp [results, Tryd.results80, go_sem]) rfl ⟨by rw [HR.out]; rfl, HB.out.trans (Below.mono (show Below w'.heap.size w' _ from (by repeat (first | exact Below.refl _ _ | refine Below.drew ?_ | refine Below.alloc ?_ (by first | exact Nat.le_refl _ | (simp; done) | (simp; omega) | omega) _ | refine Below.more ?_ (by first | exact Nat.le_refl _ | (simp; done) | (simp; omega) | omega) _ _ | refine Below.setCell ?_ (by first | exact Nat.le_refl _ | (simp; done) | (simp; omega) | omega) _ | assumption))) HB.out.size)⟩
end Go.Proofs.YtdkjiafdfenbkaaDoor
