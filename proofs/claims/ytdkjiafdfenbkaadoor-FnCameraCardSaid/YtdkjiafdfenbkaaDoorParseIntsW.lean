/- ParseInts walked. -/
import Derived.Test.YtdkjiafdfenbkaaDoorParseInts
namespace Go.Proofs.YtdkjiafdfenbkaaDoor
open Go Go.RowKit
set_option linter.unusedVariables false
theorem impl_ParseInt_t (t : ByteArray) (w : World) (hT : Tabs w) (ht : t.size ≤ 1048576) :
    Calls Tryd.prog 80 #[.string t] w fun e w' => e = .returned (optV (parseI t)) ∧ Below w.heap.size w w' := impl_ParseInt_c t w hT ht
theorem spec_ParseInt_t (t : ByteArray) (w : World) (hT : Tabs w) (ht : t.size ≤ 1048576) :
    Calls Tryd.prog 78 #[.string t] w fun e w' => e = .returned (optV (parseI t)) ∧ Below w.heap.size w w' := spec_ParseInt_c t w ht
set_option maxRecDepth 100000 in
set_option maxHeartbeats 2000000 in
theorem impl_ParseInts_dash (w : World) :
    Calls Tryd.prog 40 #[.string ⟨#[45]⟩] w (GivesI w (some [])) := by
  go_enter Tryd.func40, Tryd.ntmps40
  go_wp2
  exact bodyPost_ret (v := .tuple #[.slice (some ⟨w.heap.size, 0, none⟩) 0 0, .bool true]) (by simp [results, Tryd.results40, go_sem]) rfl ⟨_, _, rfl, Ow.none, (by repeat (first | exact Below.refl _ _ | refine Below.drew ?_ | refine Below.alloc ?_ (by first | exact Nat.le_refl _ | (simp; done) | (simp; omega) | omega) _ | refine Below.more ?_ (by first | exact Nat.le_refl _ | (simp; done) | (simp; omega) | omega) _ _ | refine Below.setCell ?_ (by first | exact Nat.le_refl _ | (simp; done) | (simp; omega) | omega) _ | assumption))⟩
set_option maxRecDepth 100000 in
set_option maxHeartbeats 2000000 in
theorem impl_ParseInts_c (t : ByteArray) (w : World) (hT : Tabs w) (ht : t.size ≤ 1048576) :
    Calls Tryd.prog 40 #[.string t] w (GivesI w (parseIs t)) := by
  by_cases hd : t = ⟨#[45]⟩
  · subst hd
    rw [show parseIs ⟨#[45]⟩ = some [] by unfold parseIs; rw [if_pos rfl]]
    exact impl_ParseInts_dash w
  have he1 : ¬ t.toList = (⟨#[45]⟩ : ByteArray).toList := fun h => hd (by rw [Lib.toList_data, Lib.toList_data] at h; exact ba_eq h)
  have he2 : ¬ t.toList = [45] := fun h => he1 (by rw [h, Lib.toList_data])
  have he3 : (t.toList == [45]) = false := beq_eq_false_iff_ne.2 he2
  have he4 : (t.toList == (⟨#[45]⟩ : ByteArray).toList) = false := beq_eq_false_iff_ne.2 he1
  have HPI := Lib.hid (show parseIs t = allI (parts t) by unfold parseIs; rw [if_neg hd])
  have HT := Lib.hid hT
  have HSP := Lib.hid (fun W => impl_SplitAny_k t W ht)
  have HPS := Lib.hid (parts_small (t := t))
  have HPL := Lib.hid (parts_len t)
  clear hT hd
  generalize parts t = P at *
  go_enter Tryd.func40, Tryd.ntmps40
  go_wp2_with (go_at_call 79; refine (HSP.out _).mono ?_; rintro e w2 ⟨sa, scap, rfl, hown, hb, hcap⟩; have HO := Lib.hid hown; have HB := Lib.hid hb; clear hown hb hcap)
  go_loopw [4, 16] (fun out i wr => ∃ (k : Nat) (ns : List Int), k ≤ P.length ∧ i = .int .i64 k ∧ IntsR w (w.heap.size + 1) w2.heap.size sa P k ns out wr) (fun _ i _ => P.length - (intOf i).toNat)
  case atStart =>
    have hb : Below (w.heap.size + 1) (w.alloc (.cells #[] 3)) w2 := by have := HB.out; simpa using this
    have ho : Ow w2 (w.heap.size + 1) w2.heap.size sa 1 P.length (stringAt P) := by have := HO.out; simpa using this
    refine ⟨0, [], Nat.zero_le _, rfl, rfl, (show Below w.heap.size w (w.alloc (.cells #[] 3)) from (by repeat (first | exact Below.refl _ _ | refine Below.drew ?_ | refine Below.alloc ?_ (by first | exact Nat.le_refl _ | (simp; done) | (simp; omega) | omega) _ | refine Below.more ?_ (by first | exact Nat.le_refl _ | (simp; done) | (simp; omega) | omega) _ _ | refine Below.setCell ?_ (by first | exact Nat.le_refl _ | (simp; done) | (simp; omega) | omega) _ | assumption))).trans (hb.mono (by omega)), ?_, ho, ?_, Nat.le_refl _⟩
    · exact own_kept (World.ownsRow_made (size := 1) w #[] 0 (Nat.le_refl _) (by decide) (by simp)) (by simpa using hb)
    · intro b h
      simp only [Value.ownBlock, Option.some.injEq] at h
      omega
  case round =>
    obtain ⟨k, ns, hk, rfl, hR⟩ := hrel
    have HR := Lib.hid hR
    by_cases hlt : k < P.length
    · have hk1 : (k : Int) < (P.length : Int) := by omega
      obtain ⟨b, o, rfl, hb, hc⟩ := hR.2.2.2.1.sl (by omega)
      have c0 : wr.cell? ⟨b, o + k, none⟩ = some (.string (P.getD k ByteArray.empty)) := by have := hc k hlt 0 (by omega); rw [Nat.mul_one, Nat.add_zero] at this; exact this
      have hpm : P.getD k ByteArray.empty ∈ P := by rw [List.getD_eq_getElem?_getD, List.getElem?_eq_getElem hlt]; exact List.getElem_mem hlt
      have hps := HPS.out _ hpm
      have HC := Lib.hid (impl_ParseInt_t (P.getD k ByteArray.empty) wr (HT.out.below HR.out.2.1) (by omega))
      obtain ⟨p, hp⟩ : ∃ p, p = P.getD k ByteArray.empty := ⟨_, rfl⟩
      rw [← hp] at c0 HC
      have HP := Lib.hid hp
      have HL := Lib.hid HPL.out
      have hPn : P.length ≤ 1048577 := by have := HPL.out; omega
      clear hR hb hc hp hpm hps
      cases hpi : parseI p with
      | none =>
        have HN := Lib.hid (show allI P = none by
          rw [← List.take_append_drop k P, List.drop_eq_getElem_cons hlt]
          refine allI_bad ?_ _ _
          rw [← hpi, HP.out, List.getD_eq_getElem?_getD, List.getElem?_eq_getElem hlt]
          rfl)
        rw [hpi] at HC
        clear hpi
        go_wp2_with (go_at_call 80; refine HC.out.mono ?_; rintro e w3 ⟨rfl, hb3⟩; have HB3 := Lib.hid hb3; clear hb3)
        exact bodyPost_ret (v := .tuple #[.slice none 0 0, .bool false]) (by simp [results, Tryd.results40, go_sem]) rfl ⟨none, 0, by rw [HPI.out, HN.out]; rfl, by rw [HPI.out, HN.out]; exact Ow.none, (HR.out.below HB3.out).2.1⟩
      | some m =>
        have HM := Lib.hid hpi
        rw [hpi] at HC
        clear hpi
        go_wp2_with (first | (go_at_call 80; refine HC.out.mono ?_; rintro e w3 ⟨rfl, hb3⟩; have HB3 := Lib.hid hb3; clear hb3) | (at_builtin; go_loud (refine wp_app_ints ((HR.out.below HB3.out).below ?b0) hlt HP.out.symm HM.out ?b1 rfl _ _ rfl rfl _ 1 rfl (by simp [go_sem]) ?_)))
        case b0 => exact (by repeat (first | exact Below.refl _ _ | refine Below.drew ?_ | refine Below.alloc ?_ (by first | exact Nat.le_refl _ | (simp; done) | (simp; omega) | omega) _ | refine Below.more ?_ (by first | exact Nat.le_refl _ | (simp; done) | (simp; omega) | omega) _ _ | refine Below.setCell ?_ (by first | exact Nat.le_refl _ | (simp; done) | (simp; omega) | omega) _ | assumption))
        case b1 => have := HL.out; omega
        intro v' w' hR'
        have HR' := Lib.hid hR'
        clear hR'
        go_wp2
        exact ⟨⟨k + 1, _, by omega, rfl, HR'.out⟩, by simp only [intOf]; omega⟩
    · obtain rfl : k = P.length := by omega
      have hk1 : ¬ (P.length : Int) < (P.length : Int) := by omega
      clear hR
      go_wp2
      obtain ⟨h1, h2, h3, _⟩ := HR.out
      rw [List.take_length] at h1
      rw [← allI_len h1] at h3
      obtain ⟨a', cap', rfl, ho⟩ := ow_of_ownsRow h3 intsAt
      exact bodyPost_ret (v := .tuple #[.slice a' ns.length cap', .bool true]) (by simp [results, Tryd.results40, go_sem]) rfl ⟨a', cap', by rw [HPI.out, h1]; rfl, by rw [HPI.out, h1]; exact ho, h2⟩
set_option maxRecDepth 100000 in
set_option maxHeartbeats 2000000 in
theorem spec_ParseInts_dash (w : World) :
    Calls Tryd.prog 39 #[.string ⟨#[45]⟩] w (GivesI w (some [])) := by
  go_enter Tryd.func39, Tryd.ntmps39
  go_wp2
  exact bodyPost_ret (v := .tuple #[.slice (some ⟨w.heap.size, 0, none⟩) 0 0, .bool true]) (by simp [results, Tryd.results39, go_sem]) rfl ⟨_, _, rfl, Ow.none, (by repeat (first | exact Below.refl _ _ | refine Below.drew ?_ | refine Below.alloc ?_ (by first | exact Nat.le_refl _ | (simp; done) | (simp; omega) | omega) _ | refine Below.more ?_ (by first | exact Nat.le_refl _ | (simp; done) | (simp; omega) | omega) _ _ | refine Below.setCell ?_ (by first | exact Nat.le_refl _ | (simp; done) | (simp; omega) | omega) _ | assumption))⟩
set_option maxRecDepth 100000 in
set_option maxHeartbeats 2000000 in
theorem spec_ParseInts_c (t : ByteArray) (w : World) (hT : Tabs w) (ht : t.size ≤ 1048576) :
    Calls Tryd.prog 39 #[.string t] w (GivesI w (parseIs t)) := by
  by_cases hd : t = ⟨#[45]⟩
  · subst hd
    rw [show parseIs ⟨#[45]⟩ = some [] by unfold parseIs; rw [if_pos rfl]]
    exact spec_ParseInts_dash w
  have he1 : ¬ t.toList = (⟨#[45]⟩ : ByteArray).toList := fun h => hd (by rw [Lib.toList_data, Lib.toList_data] at h; exact ba_eq h)
  have he2 : ¬ t.toList = [45] := fun h => he1 (by rw [h, Lib.toList_data])
  have he3 : (t.toList == [45]) = false := beq_eq_false_iff_ne.2 he2
  have he4 : (t.toList == (⟨#[45]⟩ : ByteArray).toList) = false := beq_eq_false_iff_ne.2 he1
  have HPI := Lib.hid (show parseIs t = allI (parts t) by unfold parseIs; rw [if_neg hd])
  have HT := Lib.hid hT
  have HSP := Lib.hid (fun W => spec_SplitAny_k t W ht)
  have HPS := Lib.hid (parts_small (t := t))
  have HPL := Lib.hid (parts_len t)
  clear hT hd
  generalize parts t = P at *
  go_enter Tryd.func39, Tryd.ntmps39
  go_wp2_with (go_at_call 77; refine (HSP.out _).mono ?_; rintro e w2 ⟨sa, scap, rfl, hown, hb, hcap⟩; have HO := Lib.hid hown; have HB := Lib.hid hb; clear hown hb hcap)
  go_loopw [4, 16] (fun out i wr => ∃ (k : Nat) (ns : List Int), k ≤ P.length ∧ i = .int .i64 k ∧ IntsR w (w.heap.size + 1) w2.heap.size sa P k ns out wr) (fun _ i _ => P.length - (intOf i).toNat)
  case atStart =>
    have hb : Below (w.heap.size + 1) (w.alloc (.cells #[] 3)) w2 := by have := HB.out; simpa using this
    have ho : Ow w2 (w.heap.size + 1) w2.heap.size sa 1 P.length (stringAt P) := by have := HO.out; simpa using this
    refine ⟨0, [], Nat.zero_le _, rfl, rfl, (show Below w.heap.size w (w.alloc (.cells #[] 3)) from (by repeat (first | exact Below.refl _ _ | refine Below.drew ?_ | refine Below.alloc ?_ (by first | exact Nat.le_refl _ | (simp; done) | (simp; omega) | omega) _ | refine Below.more ?_ (by first | exact Nat.le_refl _ | (simp; done) | (simp; omega) | omega) _ _ | refine Below.setCell ?_ (by first | exact Nat.le_refl _ | (simp; done) | (simp; omega) | omega) _ | assumption))).trans (hb.mono (by omega)), ?_, ho, ?_, Nat.le_refl _⟩
    · exact own_kept (World.ownsRow_made (size := 1) w #[] 0 (Nat.le_refl _) (by decide) (by simp)) (by simpa using hb)
    · intro b h
      simp only [Value.ownBlock, Option.some.injEq] at h
      omega
  case round =>
    obtain ⟨k, ns, hk, rfl, hR⟩ := hrel
    have HR := Lib.hid hR
    by_cases hlt : k < P.length
    · have hk1 : (k : Int) < (P.length : Int) := by omega
      obtain ⟨b, o, rfl, hb, hc⟩ := hR.2.2.2.1.sl (by omega)
      have c0 : wr.cell? ⟨b, o + k, none⟩ = some (.string (P.getD k ByteArray.empty)) := by have := hc k hlt 0 (by omega); rw [Nat.mul_one, Nat.add_zero] at this; exact this
      have hpm : P.getD k ByteArray.empty ∈ P := by rw [List.getD_eq_getElem?_getD, List.getElem?_eq_getElem hlt]; exact List.getElem_mem hlt
      have hps := HPS.out _ hpm
      have HC := Lib.hid (spec_ParseInt_t (P.getD k ByteArray.empty) wr (HT.out.below HR.out.2.1) (by omega))
      obtain ⟨p, hp⟩ : ∃ p, p = P.getD k ByteArray.empty := ⟨_, rfl⟩
      rw [← hp] at c0 HC
      have HP := Lib.hid hp
      have HL := Lib.hid HPL.out
      have hPn : P.length ≤ 1048577 := by have := HPL.out; omega
      clear hR hb hc hp hpm hps
      cases hpi : parseI p with
      | none =>
        have HN := Lib.hid (show allI P = none by
          rw [← List.take_append_drop k P, List.drop_eq_getElem_cons hlt]
          refine allI_bad ?_ _ _
          rw [← hpi, HP.out, List.getD_eq_getElem?_getD, List.getElem?_eq_getElem hlt]
          rfl)
        rw [hpi] at HC
        clear hpi
        go_wp2_with (go_at_call 78; refine HC.out.mono ?_; rintro e w3 ⟨rfl, hb3⟩; have HB3 := Lib.hid hb3; clear hb3)
        exact bodyPost_ret (v := .tuple #[.slice none 0 0, .bool false]) (by simp [results, Tryd.results39, go_sem]) rfl ⟨none, 0, by rw [HPI.out, HN.out]; rfl, by rw [HPI.out, HN.out]; exact Ow.none, (HR.out.below HB3.out).2.1⟩
      | some m =>
        have HM := Lib.hid hpi
        rw [hpi] at HC
        clear hpi
        go_wp2_with (first | (go_at_call 78; refine HC.out.mono ?_; rintro e w3 ⟨rfl, hb3⟩; have HB3 := Lib.hid hb3; clear hb3) | (at_builtin; go_loud (refine wp_app_ints ((HR.out.below HB3.out).below ?b0) hlt HP.out.symm HM.out ?b1 rfl _ _ rfl rfl _ 1 rfl (by simp [go_sem]) ?_)))
        case b0 => exact (by repeat (first | exact Below.refl _ _ | refine Below.drew ?_ | refine Below.alloc ?_ (by first | exact Nat.le_refl _ | (simp; done) | (simp; omega) | omega) _ | refine Below.more ?_ (by first | exact Nat.le_refl _ | (simp; done) | (simp; omega) | omega) _ _ | refine Below.setCell ?_ (by first | exact Nat.le_refl _ | (simp; done) | (simp; omega) | omega) _ | assumption))
        case b1 => have := HL.out; omega
        intro v' w' hR'
        have HR' := Lib.hid hR'
        clear hR'
        go_wp2
        exact ⟨⟨k + 1, _, by omega, rfl, HR'.out⟩, by simp only [intOf]; omega⟩
    · obtain rfl : k = P.length := by omega
      have hk1 : ¬ (P.length : Int) < (P.length : Int) := by omega
      clear hR
      go_wp2
      obtain ⟨h1, h2, h3, _⟩ := HR.out
      rw [List.take_length] at h1
      rw [← allI_len h1] at h3
      obtain ⟨a', cap', rfl, ho⟩ := ow_of_ownsRow h3 intsAt
      exact bodyPost_ret (v := .tuple #[.slice a' ns.length cap', .bool true]) (by simp [results, Tryd.results39, go_sem]) rfl ⟨a', cap', by rw [HPI.out, h1]; rfl, by rw [HPI.out, h1]; exact ho, h2⟩
end Go.Proofs.YtdkjiafdfenbkaaDoor
