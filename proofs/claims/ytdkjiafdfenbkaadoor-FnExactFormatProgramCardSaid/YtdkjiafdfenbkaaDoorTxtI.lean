/- Contracts of the texts of nodes. -/
import Derived.Test.YtdkjiafdfenbkaaDoorTxtM
import Derived.Test.YtdkjiafdfenbkaaDoorTokTexts
import Derived.Test.YtdkjiafdfenbkaaDoorAppInt
namespace Go.Proofs.YtdkjiafdfenbkaaDoor
open Go Go.RowKit
/-- The argument of a node, and the texts of its arguments. -/
theorem argT_at {l : List NodeD} {i j : Nat} (h : j < (NodeD.args l i).length) : (argT l i).getD j ByteArray.empty = txt l ((NodeD.args l i).getD j 0).toNat := by
  rw [argT, List.getD_eq_getElem?_getD, List.getElem?_map, List.getD_eq_getElem?_getD, List.getElem?_eq_getElem h]
  rfl
theorem argT_len (l : List NodeD) (i : Nat) : (argT l i).length = (NodeD.args l i).length := by simp [argT]
theorem argT_bd {p : ProgD} (h : PgmOk p) {i : Nat} (hi : i < p.nN) : ∀ t ∈ argT p.nodes i, t.size ≤ 3600 := by
  intro t ht
  obtain ⟨a, ha, rfl⟩ := List.mem_map.1 ht
  have := (h.node i hi).args a ha
  exact txt_len h (by omega)
theorem getD_bd {ts : List ByteArray} {B : Nat} (h : ∀ t ∈ ts, t.size ≤ B) (k : Nat) : (ts.getD k ByteArray.empty).size ≤ B := by
  rw [List.getD_eq_getElem?_getD]
  cases hk : ts[k]? with
  | none => simp
  | some x => exact h x (List.mem_iff_getElem?.2 ⟨k, hk⟩)
theorem joinB_bd {ts : List ByteArray} {sep : ByteArray} {B : Nat} (h : ∀ t ∈ ts, t.size ≤ B) : (joinB ts sep).size ≤ ts.length * (B + sep.size) := by
  have h1 := joinL_bd ts sep B h
  have e : (joinB ts sep).size = (joinL ts sep).length := by simp [joinB, ByteArray.size]
  rw [e]; exact h1
theorem take_strs {ts : List ByteArray} {k : Nat} (h : k < ts.length) : ((ts.take (k + 1)).map Value.string) = (ts.take k).map Value.string ++ [.string (ts.getD k ByteArray.empty)] := by
  rw [List.take_succ_eq_append_getElem h, List.map_append, List.getD_eq_getElem?_getD, List.getElem?_eq_getElem h]
  rfl
theorem symbolOf_c (o : Int) (h : 4 ≤ o ∧ o ≤ 7) (w : World) : Calls Tryd.prog 113 #[.int .i64 o] w fun e w' => e = .returned (.string (symB o)) ∧ Below w.heap.size w w' := by
  have h4 : o = 4 ∨ o = 5 ∨ o = 6 ∨ o = 7 := by omega
  rcases h4 with rfl | rfl | rfl | rfl
  all_goals
    go_enter Tryd.func113, Tryd.ntmps113
    go_wp2
    go_ret
    exact ⟨rfl, (by repeat (first | exact Below.refl _ _ | refine Below.drew ?_ | refine Below.alloc ?_ (by first | exact Nat.le_refl _ | (simp; done) | (simp; omega) | omega) _ | refine Below.more ?_ (by first | exact Nat.le_refl _ | (simp; done) | (simp; omega) | omega) _ _ | refine Below.setCell ?_ (by first | exact Nat.le_refl _ | (simp; done) | (simp; omega) | omega) _ | assumption))⟩
set_option maxRecDepth 100000 in
set_option maxHeartbeats 8000000 in
theorem impl_text_c (p : ProgD) (hok : PgmOk p) : ∀ (i : Nat), i < p.nN → ∀ (v : Value) (w : World), ProgramR w v p → Tab w → Calls Tryd.prog 71 #[v, .int .i64 (i : Int)] w fun e w' => e = .returned (.string (txt p.nodes i)) ∧ Below w.heap.size w w' := by
  intro i
  induction i using Nat.strongRecOn with
  | ind i ih =>
  intro hi v w hr hT
  have hno := hok.node i hi
  have HT := Lib.hid hT
  have HE := Lib.hid (txt_eq hno.args)
  have HL := Lib.hid (argT_len p.nodes i)
  have HBD := Lib.hid (argT_bd hok hi)
  have HIH := Lib.hid (show ∀ (j : Nat), j < (NodeD.args p.nodes i).length → ∀ W, Below w.heap.size w W → Calls Tryd.prog 71 #[v, .int .i64 ((NodeD.args p.nodes i).getD j 0)] W fun e w' => e = .returned (.string ((argT p.nodes i).getD j ByteArray.empty)) ∧ Below W.heap.size W w' from fun j hj W hb => by
    have hm : (NodeD.args p.nodes i).getD j 0 ∈ NodeD.args p.nodes i := by rw [List.getD_eq_getElem?_getD, List.getElem?_eq_getElem hj]; exact List.getElem_mem hj
    have ha := hno.args _ hm
    have h := ih ((NodeD.args p.nodes i).getD j 0).toNat (by omega) (by omega) v W (hr.below hb) (hT.below hb)
    rw [argT_at hj]
    rwa [Int.toNat_of_nonneg ha.1] at h)
  have HOP := Lib.hid hno.op
  have hn60 := hok.few
  have hnum := hno.num
  obtain ⟨a, c, a', c', rfl, h1, h2⟩ := hr
  clear h2 ih hok hT
  obtain ⟨A, K, hsl, hag⟩ := h1
  obtain ⟨nb, nf, rfl, hnb, hnc⟩ := hsl (by omega)
  have hag := hag i hi
  have d0 : w.cell? ⟨nb, nf + i * 4, none⟩ = some (.int .i64 (p.nodes.getD i default).f0) := hnc i hi 0 (by omega)
  have d1 : w.cell? ⟨nb, nf + i * 4 + 1, none⟩ = some (.string (p.nodes.getD i default).f1) := hnc i hi 1 (by omega)
  have d2 : w.cell? ⟨nb, nf + i * 4 + 2, none⟩ = some (.int .i64 (p.nodes.getD i default).f2) := hnc i hi 2 (by omega)
  have d3 : w.cell? ⟨nb, nf + i * 4 + 3, none⟩ = some (.slice (A i) (p.nodes.getD i default).f3.length (K i)) := hnc i hi 3 (by omega)
  have HNM := hno.name
  clear hnc hsl hno
  rw [show NodeD.args p.nodes i = (p.nodes.getD i default).f3 from rfl] at HL HIH HOP hag
  generalize argT p.nodes i = ts at *
  generalize txt p.nodes i = R at *
  generalize p.nodes.getD i default = x at *
  obtain ⟨f0, f1, f2, f3⟩ := x
  dsimp only at d0 d1 d2 d3 HNM HL HIH HOP hag hnum
  generalize A i = ga at *
  generalize K i = gk at *
  have HAG := Lib.hid hag
  generalize hm : f3.length = m at *
  have HM := Lib.hid hm
  have hm3 : m ≤ 3 := by rcases HOP.out with h | h | h | h | h <;> omega
  clear hm hag
  have hi1 : (i : Int) < (p.nN : Int) := by omega
  obtain ⟨i0, hinf, hz0, hz1, hz2⟩ := info_parts info_String
  go_enter Tryd.func71, Tryd.ntmps71
  go_wp2
  obtain ⟨W0, hW0⟩ : ∃ W0, W0 = (w.alloc (.cells #[.slice (some ⟨nb, nf, none⟩) p.nN c, .slice a' p.nA c'] 63)).alloc (.cells #[.int .i64 f0, .string f1, .int .i64 f2, .slice ga m gk] 156) := ⟨_, rfl⟩
  have hWs : w.heap.size + 1 + 1 = W0.heap.size := by rw [hW0]; simp
  rw [hWs, ← hW0]
  have HBW : Hid (Below w.heap.size w W0) := Lib.hid (by rw [hW0]; exact (by repeat (first | exact Below.refl _ _ | refine Below.drew ?_ | refine Below.alloc ?_ (by first | exact Nat.le_refl _ | (simp; done) | (simp; omega) | omega) _ | refine Below.more ?_ (by first | exact Nat.le_refl _ | (simp; done) | (simp; omega) | omega) _ _ | refine Below.setCell ?_ (by first | exact Nat.le_refl _ | (simp; done) | (simp; omega) | omega) _ | assumption)))
  have b0 : W0.cell? ⟨w.heap.size, 0, none⟩ = some (.slice (some ⟨nb, nf, none⟩) p.nN c) := by rw [hW0]; simp [go_sem]
  have b1 : W0.cell? ⟨w.heap.size, 1, none⟩ = some (.slice a' p.nA c') := by rw [hW0]; simp [go_sem]
  have e0 : W0.cell? ⟨w.heap.size + 1, 0, none⟩ = some (.int .i64 f0) := by rw [hW0]; simp [go_sem]
  have e1 : W0.cell? ⟨w.heap.size + 1, 1, none⟩ = some (.string f1) := by rw [hW0]; simp [go_sem]
  have e2 : W0.cell? ⟨w.heap.size + 1, 2, none⟩ = some (.int .i64 f2) := by rw [hW0]; simp [go_sem]
  have e3 : W0.cell? ⟨w.heap.size + 1, 3, none⟩ = some (.slice ga m gk) := by rw [hW0]; simp [go_sem]
  have hw0 : w.heap.size < W0.heap.size := by omega
  have hw1 : w.heap.size + 1 < W0.heap.size := by omega
  clear hW0 hWs d0 d1 d2 d3
  go_loopw [6, 18] (fun u kk wr => ∃ (j d : Nat) (X : Array Obj), j ≤ m ∧ kk = .int .i64 j ∧ wr = more W0 X d ∧ (more W0 X d).ownsRow W0.heap.size 9 1 u j ((ts.take j).map .string)) (fun _ kk _ => m - (intOf kk).toNat)
  case atStart =>
    obtain ⟨X, d, e⟩ := Below.ext (w := W0) (w' := W0.alloc (.cells #[] 9)) (by repeat (first | exact Below.refl _ _ | refine Below.drew ?_ | refine Below.alloc ?_ (by first | exact Nat.le_refl _ | (simp; done) | (simp; omega) | omega) _ | refine Below.more ?_ (by first | exact Nat.le_refl _ | (simp; done) | (simp; omega) | omega) _ _ | refine Below.setCell ?_ (by first | exact Nat.le_refl _ | (simp; done) | (simp; omega) | omega) _ | assumption))
    refine ⟨0, d, X, Nat.zero_le _, rfl, e, ?_⟩
    rw [← e]
    simpa using World.ownsRow_made (size := 1) W0 #[] 0 (Nat.le_refl _) (by decide) (by simp)
  case round =>
    obtain ⟨j, d, X, hj, rfl, rfl, hown⟩ := hrel
    have HOWN := Lib.hid hown
    clear hown
    by_cases hlt : j < m
    · have hj1 : (j : Int) < (m : Int) := by omega
      obtain ⟨gb, go, rfl, hgb, hgc⟩ := (HAG.out.below HBW.out) (by omega)
      have c0 : W0.cell? ⟨gb, go + j, none⟩ = some (.int .i64 (f3.getD j 0)) := by have := hgc j hlt 0 (by omega); rw [Nat.mul_one, Nat.add_zero] at this; exact this
      clear hgc
      have HC := Lib.hid (HIH.out j hlt)
      have HST := Lib.hid (take_strs (ts := ts) (k := j) (by rw [HL.out]; exact hlt))
      generalize f3.getD j 0 = y at *
      generalize ts.getD j ByteArray.empty = t at *
      go_wp2_with (first | (go_at_call 71; refine (HC.out _ (HBW.out.trans (by repeat (first | exact Below.refl _ _ | refine Below.drew ?_ | refine Below.alloc ?_ (by first | exact Nat.le_refl _ | (simp; done) | (simp; omega) | omega) _ | refine Below.more ?_ (by first | exact Nat.le_refl _ | (simp; done) | (simp; omega) | omega) _ _ | refine Below.setCell ?_ (by first | exact Nat.le_refl _ | (simp; done) | (simp; omega) | omega) _ | assumption)))).mono ?_; rintro e wn ⟨rfl, hbn⟩; have HO2 := Lib.hid (own_kept HOWN.out hbn); obtain ⟨X2, d2, rfl⟩ := Below.ext (Below.trans (show Below W0.heap.size W0 _ from (by repeat (first | exact Below.refl _ _ | refine Below.drew ?_ | refine Below.alloc ?_ (by first | exact Nat.le_refl _ | (simp; done) | (simp; omega) | omega) _ | refine Below.more ?_ (by first | exact Nat.le_refl _ | (simp; done) | (simp; omega) | omega) _ _ | refine Below.setCell ?_ (by first | exact Nat.le_refl _ | (simp; done) | (simp; omega) | omega) _ | assumption))) (hbn.mono (by simp))); clear hbn) | (at_builtin; go_loud (refine wpList_append_more W0 ?b0 rfl _ _ 116 rfl 9 i0 _ 1 16 Tryd.underlying116 hinf hz0 hz1 hz2 rfl (by decide) _ _ _ rfl (HO2.out.alloc _) _ 1 1 [.string t] rfl rfl ?b2 ?b3 ?b4 ?b5 ?_)))
      case b0 => exact (by repeat (first | exact Below.refl _ _ | refine Below.drew ?_ | refine Below.alloc ?_ (by first | exact Nat.le_refl _ | (simp; done) | (simp; omega) | omega) _ | refine Below.more ?_ (by first | exact Nat.le_refl _ | (simp; done) | (simp; omega) | omega) _ _ | refine Below.setCell ?_ (by first | exact Nat.le_refl _ | (simp; done) | (simp; omega) | omega) _ | assumption))
      case b2 =>
        intro j u hu
        match j, hu with
        | 0, hu =>
          obtain rfl : Value.string t = u := by simpa using hu
          simp [go_sem]
        | j + 1, hu => simp at hu
      case b3 =>
        intro u hu
        obtain rfl : u = Value.string t := by simpa using hu
        rfl
      case b4 => simp only [maxLen]; omega
      case b5 => omega
      intro v' X' d' hown' hnn
      go_wp2
      refine ⟨⟨j + 1, d', X', by omega, by first | rfl | go_num, rfl, ?_⟩, by simp only [intOf]; omega⟩
      rw [HST.out]
      simpa using hown'
    · have hj1 : ¬ (j : Int) < (m : Int) := by omega
      obtain rfl : j = m := by omega
      have ht : ts.take j = ts := List.take_of_length_le (by rw [HL.out]; exact Nat.le_refl _)
      have ho := HOWN.out
      rw [ht] at ho
      obtain ⟨ra, rc, rfl, hro, hrc⟩ := ow_of_ownsRow_cap ho (by rw [← HL.out]; exact strings_at)
      have HRO := Lib.hid hro.sl
      clear ht ho hro HOWN
      have hbm : Below W0.heap.size W0 (more W0 X d) := (by repeat (first | exact Below.refl _ _ | refine Below.drew ?_ | refine Below.alloc ?_ (by first | exact Nat.le_refl _ | (simp; done) | (simp; omega) | omega) _ | refine Below.more ?_ (by first | exact Nat.le_refl _ | (simp; done) | (simp; omega) | omega) _ _ | refine Below.setCell ?_ (by first | exact Nat.le_refl _ | (simp; done) | (simp; omega) | omega) _ | assumption))
      obtain ⟨W1, hW1⟩ : ∃ W1, W1 = more W0 X d := ⟨_, rfl⟩
      rw [← hW1] at HRO hbm ⊢
      clear hW1
      have HBW1 := Lib.hid (HBW.out.trans (hbm.mono HBW.out.size))
      replace b0 := cell_below hbm b0
      replace b1 := cell_below hbm b1
      replace e0 := cell_below hbm e0
      replace e1 := cell_below hbm e1
      replace e2 := cell_below hbm e2
      replace e3 := cell_below hbm e3
      have hs1 := hbm.size
      replace hw0 : w.heap.size < W1.heap.size := by omega
      replace hw1 : w.heap.size + 1 < W1.heap.size := by omega
      clear hbm hs1
      rcases HOP.out with ⟨rfl, _⟩ | ⟨rfl, _⟩ | ⟨rfl, hm1⟩ | ⟨rfl, _⟩ | ⟨h47, hm2⟩
      · go_wp2_with (go_at_call 24; refine (impl_FormatNumber_c _ _ (HT.out.below (HBW1.out.trans (by repeat (first | exact Below.refl _ _ | refine Below.drew ?_ | refine Below.alloc ?_ (by first | exact Nat.le_refl _ | (simp; done) | (simp; omega) | omega) _ | refine Below.more ?_ (by first | exact Nat.le_refl _ | (simp; done) | (simp; omega) | omega) _ _ | refine Below.setCell ?_ (by first | exact Nat.le_refl _ | (simp; done) | (simp; omega) | omega) _ | assumption))))).mono ?_; rintro e wn ⟨rfl, hbn⟩; obtain ⟨X, nX, rfl⟩ := Below.ext hbn; clear hbn)
        go_ret
        exact ⟨by rw [HE.out]; rfl, HBW1.out.trans (by repeat (first | exact Below.refl _ _ | refine Below.drew ?_ | refine Below.alloc ?_ (by first | exact Nat.le_refl _ | (simp; done) | (simp; omega) | omega) _ | refine Below.more ?_ (by first | exact Nat.le_refl _ | (simp; done) | (simp; omega) | omega) _ _ | refine Below.setCell ?_ (by first | exact Nat.le_refl _ | (simp; done) | (simp; omega) | omega) _ | assumption))⟩
      · go_wp2
        go_ret
        exact ⟨by rw [HE.out]; rfl, HBW1.out.trans (by repeat (first | exact Below.refl _ _ | refine Below.drew ?_ | refine Below.alloc ?_ (by first | exact Nat.le_refl _ | (simp; done) | (simp; omega) | omega) _ | refine Below.more ?_ (by first | exact Nat.le_refl _ | (simp; done) | (simp; omega) | omega) _ _ | refine Below.setCell ?_ (by first | exact Nat.le_refl _ | (simp; done) | (simp; omega) | omega) _ | assumption))⟩
      · have ht0 := getD_bd HBD.out 0
        obtain ⟨rb, ro, rfl, hrb, hrx⟩ := HRO.out (by omega)
        have r0 : W1.cell? ⟨rb, ro, none⟩ = some (.string (ts.getD 0 ByteArray.empty)) := by have := hrx 0 (by omega) 0 (by omega); simpa [stringAt] using this
        clear hrx
        have hz : (0 : Int) < (j : Int) := by omega
        have HE2 := Lib.hid (show R = (⟨#[40, 45]⟩ ++ ts.getD 0 ByteArray.empty) ++ ⟨#[41]⟩ from by rw [HE.out]; rfl)
        generalize ts.getD 0 ByteArray.empty = t0 at *
        have c2 : (⟨#[40, 45]⟩ ++ t0 : ByteArray).size ≤ 4000 := by rw [ByteArray.size_append]; have : (⟨#[40, 45]⟩ : ByteArray).size = 2 := rfl; omega
        go_wp2
        go_ret
        exact ⟨by rw [HE2.out]; rfl, HBW1.out.trans (by repeat (first | exact Below.refl _ _ | refine Below.drew ?_ | refine Below.alloc ?_ (by first | exact Nat.le_refl _ | (simp; done) | (simp; omega) | omega) _ | refine Below.more ?_ (by first | exact Nat.le_refl _ | (simp; done) | (simp; omega) | omega) _ _ | refine Below.setCell ?_ (by first | exact Nat.le_refl _ | (simp; done) | (simp; omega) | omega) _ | assumption))⟩
      · have HE2 := Lib.hid (show R = ((f1 ++ ⟨#[40]⟩) ++ joinB ts ⟨#[44, 32]⟩) ++ ⟨#[41]⟩ from by rw [HE.out]; rfl)
        have HJ := joinB_bd (sep := ⟨#[44, 32]⟩) HBD.out
        have hj8 : (joinB ts ⟨#[44, 32]⟩).size ≤ 20000 := by
          have c4 : (⟨#[44, 32]⟩ : ByteArray).size = 2 := rfl
          rw [c4, HL.out] at HJ
          omega
        have HBT := Lib.hid (show ∀ t ∈ ts, t.size ≤ 1048576 from fun t ht => by have := HBD.out t ht; omega)
        have HJC := Lib.hid (fun W (h : Below W1.heap.size W1 W) => impl_Join_c ra rc ts j HL ⟨#[44, 32]⟩ W (HRO.out.below h) (by omega) hrc HBT.out (by decide))
        clear HJ
        generalize joinB ts ⟨#[44, 32]⟩ = jb at *
        have n1 : ¬ 9223372036854775807 < f1.size + 1 := by omega
        have n2 : ¬ 9223372036854775807 < f1.size + 1 + jb.size := by omega
        have n3 : ¬ 9223372036854775807 < f1.size + 1 + jb.size + 1 := by omega
        go_wp2
        (first | refine region_q2 (by kernel_rfl) (by kernel_rfl) ?_ | refine region_q (by kernel_rfl) (by kernel_rfl) ?_)
        repeat (first | go_big_quiet_skip | (go_big_quiet_want; go_simp; go_big_quiet_on))
        (refine wpQuiet_step (fun K hK => ?_); go_simp; refine ⟨_, fun zt => ext_below (HJC.out _ (by repeat (first | exact Below.refl _ _ | refine Below.drew ?_ | refine Below.alloc ?_ (by first | exact Nat.le_refl _ | (simp; done) | (simp; omega) | omega) _ | refine Below.more ?_ (by first | exact Nat.le_refl _ | (simp; done) | (simp; omega) | omega) _ _ | refine Below.setCell ?_ (by first | exact Nat.le_refl _ | (simp; done) | (simp; omega) | omega) _ | assumption))), hK _ ?_⟩; clear hK K)
        repeat (first | go_big_quiet_skip | (go_big_quiet_want; go_simp; go_big_quiet_on))
        (refine wpQuiet_nil ?_; intro X nX)
        go_wp2
        go_ret
        exact ⟨by rw [HE2.out]; rfl, HBW1.out.trans (by repeat (first | exact Below.refl _ _ | refine Below.drew ?_ | refine Below.alloc ?_ (by first | exact Nat.le_refl _ | (simp; done) | (simp; omega) | omega) _ | refine Below.more ?_ (by first | exact Nat.le_refl _ | (simp; done) | (simp; omega) | omega) _ _ | refine Below.setCell ?_ (by first | exact Nat.le_refl _ | (simp; done) | (simp; omega) | omega) _ | assumption))⟩
      · have ht0 := getD_bd HBD.out 0
        have ht1 := getD_bd HBD.out 1
        obtain ⟨rb, ro, rfl, hrb, hrx⟩ := HRO.out (by omega)
        have r0 : W1.cell? ⟨rb, ro, none⟩ = some (.string (ts.getD 0 ByteArray.empty)) := by have := hrx 0 (by omega) 0 (by omega); simpa [stringAt] using this
        have r1 : W1.cell? ⟨rb, ro + 1, none⟩ = some (.string (ts.getD 1 ByteArray.empty)) := by have := hrx 1 (by omega) 0 (by omega); simpa [stringAt] using this
        clear hrx
        have hz : (0 : Int) < (j : Int) := by omega
        have hz1' : (1 : Int) < (j : Int) := by omega
        have HE2 := Lib.hid (show R = (((((⟨#[40]⟩ ++ ts.getD 0 ByteArray.empty) ++ ⟨#[32]⟩) ++ symB f0) ++ ⟨#[32]⟩) ++ ts.getD 1 ByteArray.empty) ++ ⟨#[41]⟩ from by
          rw [HE.out]; unfold nodeTxt; dsimp only
          rw [if_neg (by omega), if_neg (by omega), if_neg (by omega), if_neg (by omega)])
        have hsy := symB_len f0
        generalize ts.getD 0 ByteArray.empty = t0 at *
        generalize ts.getD 1 ByteArray.empty = t1 at *
        have HSY := Lib.hid (fun W => symbolOf_c f0 h47 W)
        have q1 : ¬ f0 = 1 := by omega
        have q2 : ¬ f0 = 2 := by omega
        have q3 : ¬ f0 = 3 := by omega
        have q8 : ¬ f0 = 8 := by omega
        generalize symB f0 = sy at *
        have n1 : ¬ 9223372036854775807 < 1 + t0.size := by omega
        have n2 : ¬ 9223372036854775807 < 1 + t0.size + 1 := by omega
        have n3 : ¬ 9223372036854775807 < 1 + t0.size + 1 + sy.size := by omega
        have n4 : ¬ 9223372036854775807 < 1 + t0.size + 1 + sy.size + 1 := by omega
        have n5 : ¬ 9223372036854775807 < 1 + t0.size + 1 + sy.size + 1 + t1.size := by omega
        have n6 : ¬ 9223372036854775807 < 1 + t0.size + 1 + sy.size + 1 + t1.size + 1 := by omega
        clear hsy
        go_wp2
        (first | refine region_q2 (by kernel_rfl) (by kernel_rfl) ?_ | refine region_q (by kernel_rfl) (by kernel_rfl) ?_)
        repeat (first | go_big_quiet_skip | (go_big_quiet_want; go_simp; go_big_quiet_on))
        (refine wpQuiet_step (fun K hK => ?_); go_simp; refine ⟨_, fun zt => ext_below (HSY.out _), hK _ ?_⟩; clear hK K)
        repeat (first | go_big_quiet_skip | (go_big_quiet_want; go_simp; go_big_quiet_on))
        (refine wpQuiet_nil ?_; intro X nX)
        go_wp2
        go_ret
        exact ⟨by rw [HE2.out]; rfl, HBW1.out.trans (by repeat (first | exact Below.refl _ _ | refine Below.drew ?_ | refine Below.alloc ?_ (by first | exact Nat.le_refl _ | (simp; done) | (simp; omega) | omega) _ | refine Below.more ?_ (by first | exact Nat.le_refl _ | (simp; done) | (simp; omega) | omega) _ _ | refine Below.setCell ?_ (by first | exact Nat.le_refl _ | (simp; done) | (simp; omega) | omega) _ | assumption))⟩
end Go.Proofs.YtdkjiafdfenbkaaDoor
