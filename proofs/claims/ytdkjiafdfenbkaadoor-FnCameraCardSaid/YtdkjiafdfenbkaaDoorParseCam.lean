/- ParseCamera walked. -/
import Derived.Test.YtdkjiafdfenbkaaDoorParseIntsW
import Derived.Test.YtdkjiafdfenbkaaDoorFormats
import Derived.Test.YtdkjiafdfenbkaaDoorBox
import Derived.Test.YtdkjiafdfenbkaaDoorPutO
namespace Go.Proofs.YtdkjiafdfenbkaaDoor
open Go Go.RowKit
set_option linter.unusedVariables false
structure CamR where
  W : Int
  H : Int
  Z : Int
  N : Int
  D : Bool
  L : Int
  F : Int
def camOpt : Option CamR → Value
  | none => camV 0 0 0 0 false 0 0
  | some c => camV c.W c.H c.Z c.N c.D c.L c.F
/-- What a text says: a camera, or none. -/
noncomputable def parseC (t : ByteArray) : Option CamR :=
  match parseIs t with
  | some [W, H, Z, N, d, L, F] => if camB W H Z N (d == 1) L F = t then some ⟨W, H, Z, N, d == 1, L, F⟩ else none
  | _ => none
theorem parseC_none {t : ByteArray} (h : parseIs t = none) : parseC t = none := by unfold parseC; rw [h]
theorem parseC_len {t : ByteArray} {l : List Int} (h : parseIs t = some l) (hl : l.length ≠ 7) : parseC t = none := by
  unfold parseC; rw [h]
  split
  · next e => cases e; simp at hl
  · rfl
theorem parseC_seven {t : ByteArray} {W H Z N d L F : Int} (h : parseIs t = some [W, H, Z, N, d, L, F]) : parseC t = if camB W H Z N (d == 1) L F = t then some ⟨W, H, Z, N, d == 1, L, F⟩ else none := by unfold parseC; rw [h]
theorem parseIs_len {t : ByteArray} {l : List Int} (h : parseIs t = some l) (ht : t.size ≤ 1048576) : l.length ≤ 1048577 := by
  unfold parseIs at h
  split at h
  · cases h; simp
  · rw [allI_len h]
    have := parts_len t
    omega
theorem seven_of {l : List Int} (h : l.length = 7) : ∃ a b c d e f g, l = [a, b, c, d, e, f, g] := by
  match l, h with
  | [a, b, c, d, e, f, g], _ => exact ⟨a, b, c, d, e, f, g, rfl⟩
set_option maxRecDepth 100000 in
set_option maxHeartbeats 2000000 in
theorem impl_ParseCamera_bad (t : ByteArray) (w : World) (l : List Int) (ok : Bool) (hl : ok = false ∨ l.length ≠ 7) (hL : l.length ≤ 1048577)
    (hI : ∀ W, Below w.heap.size w W → Calls Tryd.prog 40 #[.string t] W fun e w' => ∃ a cap, e = .returned (.tuple #[.slice a l.length cap, .bool ok]) ∧ Below W.heap.size W w') :
    Calls Tryd.prog 17 #[.string t] w fun e w' => e = .returned (.tuple #[camOpt none, .bool false]) ∧ Below w.heap.size w w' := by
  have HI := Lib.hid hI
  clear hI
  generalize l.length = n at *
  cases ok
  · clear hl
    go_enter Tryd.func17, Tryd.ntmps17
    go_wp2_with (go_at_call 40; refine (HI.out _ (by repeat (first | exact Below.refl _ _ | refine Below.drew ?_ | refine Below.alloc ?_ (by first | exact Nat.le_refl _ | (simp; done) | (simp; omega) | omega) _ | refine Below.more ?_ (by first | exact Nat.le_refl _ | (simp; done) | (simp; omega) | omega) _ _ | refine Below.setCell ?_ (by first | exact Nat.le_refl _ | (simp; done) | (simp; omega) | omega) _ | assumption))).mono ?_; rintro e wr ⟨a, cap, rfl, hb⟩; obtain ⟨X, nX, rfl⟩ := Below.ext hb; clear hb)
    exact bodyPost_ret (v := .tuple #[camV 0 0 0 0 false 0 0, .bool false]) (by simp [results, Tryd.results17, go_sem]) rfl ⟨rfl, (by repeat (first | exact Below.refl _ _ | refine Below.drew ?_ | refine Below.alloc ?_ (by first | exact Nat.le_refl _ | (simp; done) | (simp; omega) | omega) _ | refine Below.more ?_ (by first | exact Nat.le_refl _ | (simp; done) | (simp; omega) | omega) _ _ | refine Below.setCell ?_ (by first | exact Nat.le_refl _ | (simp; done) | (simp; omega) | omega) _ | assumption))⟩
  · have h1 : ¬ n = 7 := by simpa using hl
    have h2 : ¬ (n : Int) = 7 := by omega
    clear hl
    go_enter Tryd.func17, Tryd.ntmps17
    go_wp2_with (go_at_call 40; refine (HI.out _ (by repeat (first | exact Below.refl _ _ | refine Below.drew ?_ | refine Below.alloc ?_ (by first | exact Nat.le_refl _ | (simp; done) | (simp; omega) | omega) _ | refine Below.more ?_ (by first | exact Nat.le_refl _ | (simp; done) | (simp; omega) | omega) _ _ | refine Below.setCell ?_ (by first | exact Nat.le_refl _ | (simp; done) | (simp; omega) | omega) _ | assumption))).mono ?_; rintro e wr ⟨a, cap, rfl, hb⟩; obtain ⟨X, nX, rfl⟩ := Below.ext hb; clear hb)
    exact bodyPost_ret (v := .tuple #[camV 0 0 0 0 false 0 0, .bool false]) (by simp [results, Tryd.results17, go_sem]) rfl ⟨rfl, (by repeat (first | exact Below.refl _ _ | refine Below.drew ?_ | refine Below.alloc ?_ (by first | exact Nat.le_refl _ | (simp; done) | (simp; omega) | omega) _ | refine Below.more ?_ (by first | exact Nat.le_refl _ | (simp; done) | (simp; omega) | omega) _ _ | refine Below.setCell ?_ (by first | exact Nat.le_refl _ | (simp; done) | (simp; omega) | omega) _ | assumption))⟩
set_option maxRecDepth 100000 in
set_option maxHeartbeats 2000000 in
theorem impl_ParseCamera_seven (t : ByteArray) (w : World) (hT : Tab w) (W H Z N d L F : Int) (D : Bool) (hD : (d == 1) = D) (oc : Option CamR) (ho : oc = if camB W H Z N D L F = t then some ⟨W, H, Z, N, D, L, F⟩ else none)
    (hI : ∀ w0, Below w.heap.size w w0 → Calls Tryd.prog 40 #[.string t] w0 fun e w' => ∃ a cap, e = .returned (.tuple #[.slice a 7 cap, .bool true]) ∧ Sl w' a 1 7 (intAt [W, H, Z, N, d, L, F]) ∧ Below w0.heap.size w0 w') :
    Calls Tryd.prog 17 #[.string t] w fun e w' => e = .returned (.tuple #[camOpt oc, .bool oc.isSome]) ∧ Below w.heap.size w w' := by
  have HI := Lib.hid hI
  have HT := Lib.hid hT
  have HV := Lib.hid ho
  clear hI hT ho
  go_enter Tryd.func17, Tryd.ntmps17
  go_wp2_with (go_at_call 40; refine (HI.out _ (by repeat (first | exact Below.refl _ _ | refine Below.drew ?_ | refine Below.alloc ?_ (by first | exact Nat.le_refl _ | (simp; done) | (simp; omega) | omega) _ | refine Below.more ?_ (by first | exact Nat.le_refl _ | (simp; done) | (simp; omega) | omega) _ _ | refine Below.setCell ?_ (by first | exact Nat.le_refl _ | (simp; done) | (simp; omega) | omega) _ | assumption))).mono ?_; rintro e wr ⟨a, cap, rfl, hs, hb⟩; obtain ⟨X, nX, hwr⟩ := Below.ext hb; have HWR := Lib.hid hwr; clear hwr hb; obtain ⟨b, o, rfl, hbl, hc⟩ := hs (by decide); have c0 : wr.cell? ⟨b, o, none⟩ = some (.int .i64 W) := hc 0 (by decide) 0 (by decide); have c1 : wr.cell? ⟨b, o + 1, none⟩ = some (.int .i64 H) := hc 1 (by decide) 0 (by decide); have c2 : wr.cell? ⟨b, o + 2, none⟩ = some (.int .i64 Z) := hc 2 (by decide) 0 (by decide); have c3 : wr.cell? ⟨b, o + 3, none⟩ = some (.int .i64 N) := hc 3 (by decide) 0 (by decide); have c4 : wr.cell? ⟨b, o + 4, none⟩ = some (.int .i64 d) := hc 4 (by decide) 0 (by decide); have c5 : wr.cell? ⟨b, o + 5, none⟩ = some (.int .i64 L) := hc 5 (by decide) 0 (by decide); have c6 : wr.cell? ⟨b, o + 6, none⟩ = some (.int .i64 F) := hc 6 (by decide) 0 (by decide); clear hc hs)
  ((first | refine region_box 23 31 [.int .i64 0, .int .i64 0, .int .i64 0, .int .i64 0, .bool false, .int .i64 0, .int .i64 0] [.int .i64 W, .int .i64 H, .int .i64 Z, .int .i64 N, .bool D, .int .i64 L, .int .i64 F] (by kernel_rfl) (by kernel_rfl) ?_ | refine region_box0 23 31 [.int .i64 0, .int .i64 0, .int .i64 0, .int .i64 0, .bool false, .int .i64 0, .int .i64 0] [.int .i64 W, .int .i64 H, .int .i64 Z, .int .i64 N, .bool D, .int .i64 L, .int .i64 F] (by kernel_rfl) (by kernel_rfl) ?_); simp only [List.take_succ_cons, List.take_zero, List.drop_succ_cons, List.drop_zero])
  repeat (refine headS_step (fun K hK => ?_); go_simp; refine hK _ ?_; clear hK K)
  refine headS_nil ?_
  refine tail_box (by go_simp) (fun X d => by go_simp) (fun b => by go_simp) (fun b w hb => by go_simp) (fun b => ?_)
  refine tail_done (fun X1 X2 dd hb => ?_)
  subst hb
  simp only [Act.put, List.setIfInBounds_toArray, List.set_cons_zero, List.set_cons_succ]
  clear c0 c1 c2 c3 c4 c5 c6 hbl
  have hH : (more ((more wr X1 0).alloc (.cells ⟨[.int .i64 W, .int .i64 H, .int .i64 Z, .int .i64 N, .bool D, .int .i64 L, .int .i64 F]⟩ 31)) X2 dd).heap[(more wr X1 0).heap.size]? = some (.cells ⟨[.int .i64 W, .int .i64 H, .int .i64 Z, .int .i64 N, .bool D, .int .i64 L, .int .i64 F]⟩ 31 (0, 0)) := by
    rw [heap_more _ (by simp)]; exact heap_at_new rfl
  have hr0 : wr.heap[w.heap.size]? = some (.cells #[.int .i64 0, .int .i64 0, .int .i64 0, .int .i64 0, .bool false, .int .i64 0, .int .i64 0] 31 (0, 0)) := by
    rw [HWR.out, heap_more _ (by simp)]; exact heap_at_new rfl
  have hlt0 : w.heap.size < wr.heap.size := (Array.getElem?_eq_some_iff.1 hr0).1
  have hlz : (more wr X1 0).heap.size < (more ((more wr X1 0).alloc (.cells ⟨[.int .i64 W, .int .i64 H, .int .i64 Z, .int .i64 N, .bool D, .int .i64 L, .int .i64 F]⟩ 31)) X2 dd).heap.size := (Array.getElem?_eq_some_iff.1 hH).1
  have hbz : Below wr.heap.size wr (more ((more wr X1 0).alloc (.cells ⟨[.int .i64 W, .int .i64 H, .int .i64 Z, .int .i64 N, .bool D, .int .i64 L, .int .i64 F]⟩ 31)) X2 dd) := (by repeat (first | exact Below.refl _ _ | refine Below.drew ?_ | refine Below.alloc ?_ (by first | exact Nat.le_refl _ | (simp; done) | (simp; omega) | omega) _ | refine Below.more ?_ (by first | exact Nat.le_refl _ | (simp; done) | (simp; omega) | omega) _ _ | refine Below.setCell ?_ (by first | exact Nat.le_refl _ | (simp; done) | (simp; omega) | omega) _ | assumption))
  have hbw : Below w.heap.size w wr := by rw [HWR.out]; exact (by repeat (first | exact Below.refl _ _ | refine Below.drew ?_ | refine Below.alloc ?_ (by first | exact Nat.le_refl _ | (simp; done) | (simp; omega) | omega) _ | refine Below.more ?_ (by first | exact Nat.le_refl _ | (simp; done) | (simp; omega) | omega) _ _ | refine Below.setCell ?_ (by first | exact Nat.le_refl _ | (simp; done) | (simp; omega) | omega) _ | assumption))
  have hne : w.heap.size ≠ (more wr X1 0).heap.size := by simp; omega
  generalize (more ((more wr X1 0).alloc (.cells ⟨[.int .i64 W, .int .i64 H, .int .i64 Z, .int .i64 N, .bool D, .int .i64 L, .int .i64 F]⟩ 31)) X2 dd) = wz at *
  have hbb : (more wr X1 0).heap.size = wr.heap.size + X1.size := by simp
  rw [hbb] at hH hlz hne
  clear hbb
  have hr : wz.heap[w.heap.size]? = some (.cells ⟨[.int .i64 0, .int .i64 0, .int .i64 0, .int .i64 0, .bool false, .int .i64 0, .int .i64 0]⟩ 31 (0, 0)) := by rw [hbz.block _ hlt0]; exact hr0
  have hlw : w.heap.size < wz.heap.size := (Array.getElem?_eq_some_iff.1 hr).1
  have HBW := Lib.hid (hbw.trans (hbz.mono hbw.size))
  have hge : w.heap.size ≤ wr.heap.size + X1.size := by omega
  generalize wr.heap.size + X1.size = bb at hH hlz hne hge ⊢
  have HFORM := Lib.hid (show putB (putB wz w.heap.size [.int .i64 0, .int .i64 0, .int .i64 0, .int .i64 0, .bool false, .int .i64 0, .int .i64 0] 31) bb [.int .i64 W, .int .i64 H, .int .i64 Z, .int .i64 N, .bool D, .int .i64 L, .int .i64 F] 31 = wz by rw [putB_self hr, putB_self hH])
  have hne' : ¬ bb = w.heap.size := fun h => hne h.symm
  clear hH hr0 hlt0 hbz hbw hr HWR
  have HF := Lib.hid (fun W0 (hb : Below w.heap.size w W0) => impl_FormatCamera_c W H Z N D L F W0 (HT.out.below hb))
  have HPB := Lib.hid (fun (zs cs : List Value) X n => show Below w.heap.size w (more (putB (putB wz w.heap.size zs 31) bb cs 31) X n) from Below.more ((HBW.out.trans (Below.putB (Nat.le_refl _))).trans (Below.putB hge)) (by simp; omega) X n)
  by_cases he : camB W H Z N D L F = t
  · have HV2 := Lib.hid (HV.out.trans (if_pos he))
    rw [he] at HF
    clear he
    rw [← HFORM.out]
    go_wp2_with fail
    refine (HF.out _ (by rw [HFORM.out]; exact HBW.out)).mono ?_
    rintro e wn ⟨rfl, hbn⟩; obtain ⟨X, nX, rfl⟩ := Below.ext hbn; clear hbn
    go_wp2
    exact bodyPost_ret (v := .tuple #[camV W H Z N D L F, .bool true]) (by simp [results, Tryd.results17, go_sem, hlw, hne]) rfl ⟨by rw [HV2.out]; rfl, HPB.out _ _ _ _⟩
  · have HV2 := Lib.hid (HV.out.trans (if_neg he))
    clear HV
    have he2 : ¬ (camB W H Z N D L F).toList = t.toList := fun h => he (by rw [Lib.toList_data, Lib.toList_data] at h; rw [ba_eq h])
    have he3 : ¬ t.toList = (camB W H Z N D L F).toList := fun h => he2 h.symm
    have he4 : ((camB W H Z N D L F).toList == t.toList) = false := beq_eq_false_iff_ne.2 he2
    clear he
    generalize camB W H Z N D L F = tv at *
    rw [← HFORM.out]
    go_wp2_with fail
    refine (HF.out _ (by rw [HFORM.out]; exact HBW.out)).mono ?_
    rintro e wn ⟨rfl, hbn⟩; obtain ⟨X, nX, rfl⟩ := Below.ext hbn; clear hbn
    go_wp2
    exact bodyPost_ret (v := .tuple #[camV 0 0 0 0 false 0 0, .bool false]) (by simp [results, Tryd.results17, go_sem, hlw, hne]) rfl ⟨by rw [HV2.out]; rfl, HPB.out _ _ _ _⟩
theorem impl_ParseCamera_c (t : ByteArray) (w : World) (hT : Tabs w) (ht : t.size ≤ 1048576) :
    Calls Tryd.prog 17 #[.string t] w fun e w' => e = .returned (.tuple #[camOpt (parseC t), .bool (parseC t).isSome]) ∧ Below w.heap.size w w' := by
  have hI := fun W (hb : Below w.heap.size w W) => impl_ParseInts_c t W (hT.below hb) ht
  cases hp : parseIs t with
  | none =>
    rw [hp] at hI
    rw [parseC_none hp]
    exact impl_ParseCamera_bad t w [] false (.inl rfl) (by simp) (fun W hb => (hI W hb).mono fun e w' ⟨a, cap, h1, h2, h3⟩ => ⟨a, cap, h1, h3⟩)
  | some l =>
    rw [hp] at hI
    by_cases hl : l.length = 7
    · obtain ⟨W, H, Z, N, d, L, F, rfl⟩ := seven_of hl
      exact impl_ParseCamera_seven t w hT.tab W H Z N d L F _ rfl _ (parseC_seven hp) (fun W hb => (hI W hb).mono fun e w' ⟨a, cap, h1, h2, h3⟩ => ⟨a, cap, h1, h2.sl, h3⟩)
    · rw [parseC_len hp hl]
      exact impl_ParseCamera_bad t w l true (.inr hl) (parseIs_len hp ht) (fun W hb => (hI W hb).mono fun e w' ⟨a, cap, h1, h2, h3⟩ => ⟨a, cap, h1, h3⟩)
set_option maxRecDepth 100000 in
set_option maxHeartbeats 2000000 in
theorem spec_ParseCamera_bad (t : ByteArray) (w : World) (l : List Int) (ok : Bool) (hl : ok = false ∨ l.length ≠ 7) (hL : l.length ≤ 1048577)
    (hI : ∀ W, Below w.heap.size w W → Calls Tryd.prog 39 #[.string t] W fun e w' => ∃ a cap, e = .returned (.tuple #[.slice a l.length cap, .bool ok]) ∧ Below W.heap.size W w') :
    Calls Tryd.prog 16 #[.string t] w fun e w' => e = .returned (.tuple #[camOpt none, .bool false]) ∧ Below w.heap.size w w' := by
  have HI := Lib.hid hI
  clear hI
  generalize l.length = n at *
  cases ok
  · clear hl
    go_enter Tryd.func16, Tryd.ntmps16
    go_wp2_with (go_at_call 39; refine (HI.out _ (by repeat (first | exact Below.refl _ _ | refine Below.drew ?_ | refine Below.alloc ?_ (by first | exact Nat.le_refl _ | (simp; done) | (simp; omega) | omega) _ | refine Below.more ?_ (by first | exact Nat.le_refl _ | (simp; done) | (simp; omega) | omega) _ _ | refine Below.setCell ?_ (by first | exact Nat.le_refl _ | (simp; done) | (simp; omega) | omega) _ | assumption))).mono ?_; rintro e wr ⟨a, cap, rfl, hb⟩; obtain ⟨X, nX, rfl⟩ := Below.ext hb; clear hb)
    exact bodyPost_ret (v := .tuple #[camV 0 0 0 0 false 0 0, .bool false]) (by simp [results, Tryd.results16, go_sem]) rfl ⟨rfl, (by repeat (first | exact Below.refl _ _ | refine Below.drew ?_ | refine Below.alloc ?_ (by first | exact Nat.le_refl _ | (simp; done) | (simp; omega) | omega) _ | refine Below.more ?_ (by first | exact Nat.le_refl _ | (simp; done) | (simp; omega) | omega) _ _ | refine Below.setCell ?_ (by first | exact Nat.le_refl _ | (simp; done) | (simp; omega) | omega) _ | assumption))⟩
  · have h1 : ¬ n = 7 := by simpa using hl
    have h2 : ¬ (n : Int) = 7 := by omega
    clear hl
    go_enter Tryd.func16, Tryd.ntmps16
    go_wp2_with (go_at_call 39; refine (HI.out _ (by repeat (first | exact Below.refl _ _ | refine Below.drew ?_ | refine Below.alloc ?_ (by first | exact Nat.le_refl _ | (simp; done) | (simp; omega) | omega) _ | refine Below.more ?_ (by first | exact Nat.le_refl _ | (simp; done) | (simp; omega) | omega) _ _ | refine Below.setCell ?_ (by first | exact Nat.le_refl _ | (simp; done) | (simp; omega) | omega) _ | assumption))).mono ?_; rintro e wr ⟨a, cap, rfl, hb⟩; obtain ⟨X, nX, rfl⟩ := Below.ext hb; clear hb)
    exact bodyPost_ret (v := .tuple #[camV 0 0 0 0 false 0 0, .bool false]) (by simp [results, Tryd.results16, go_sem]) rfl ⟨rfl, (by repeat (first | exact Below.refl _ _ | refine Below.drew ?_ | refine Below.alloc ?_ (by first | exact Nat.le_refl _ | (simp; done) | (simp; omega) | omega) _ | refine Below.more ?_ (by first | exact Nat.le_refl _ | (simp; done) | (simp; omega) | omega) _ _ | refine Below.setCell ?_ (by first | exact Nat.le_refl _ | (simp; done) | (simp; omega) | omega) _ | assumption))⟩
set_option maxRecDepth 100000 in
set_option maxHeartbeats 2000000 in
theorem spec_ParseCamera_seven (t : ByteArray) (w : World) (hT : Tab w) (W H Z N d L F : Int) (D : Bool) (hD : (d == 1) = D) (oc : Option CamR) (ho : oc = if camB W H Z N D L F = t then some ⟨W, H, Z, N, D, L, F⟩ else none)
    (hI : ∀ w0, Below w.heap.size w w0 → Calls Tryd.prog 39 #[.string t] w0 fun e w' => ∃ a cap, e = .returned (.tuple #[.slice a 7 cap, .bool true]) ∧ Sl w' a 1 7 (intAt [W, H, Z, N, d, L, F]) ∧ Below w0.heap.size w0 w') :
    Calls Tryd.prog 16 #[.string t] w fun e w' => e = .returned (.tuple #[camOpt oc, .bool oc.isSome]) ∧ Below w.heap.size w w' := by
  have HI := Lib.hid hI
  have HT := Lib.hid hT
  have HV := Lib.hid ho
  clear hI hT ho
  go_enter Tryd.func16, Tryd.ntmps16
  go_wp2_with (go_at_call 39; refine (HI.out _ (by repeat (first | exact Below.refl _ _ | refine Below.drew ?_ | refine Below.alloc ?_ (by first | exact Nat.le_refl _ | (simp; done) | (simp; omega) | omega) _ | refine Below.more ?_ (by first | exact Nat.le_refl _ | (simp; done) | (simp; omega) | omega) _ _ | refine Below.setCell ?_ (by first | exact Nat.le_refl _ | (simp; done) | (simp; omega) | omega) _ | assumption))).mono ?_; rintro e wr ⟨a, cap, rfl, hs, hb⟩; obtain ⟨X, nX, hwr⟩ := Below.ext hb; have HWR := Lib.hid hwr; clear hwr hb; obtain ⟨b, o, rfl, hbl, hc⟩ := hs (by decide); have c0 : wr.cell? ⟨b, o, none⟩ = some (.int .i64 W) := hc 0 (by decide) 0 (by decide); have c1 : wr.cell? ⟨b, o + 1, none⟩ = some (.int .i64 H) := hc 1 (by decide) 0 (by decide); have c2 : wr.cell? ⟨b, o + 2, none⟩ = some (.int .i64 Z) := hc 2 (by decide) 0 (by decide); have c3 : wr.cell? ⟨b, o + 3, none⟩ = some (.int .i64 N) := hc 3 (by decide) 0 (by decide); have c4 : wr.cell? ⟨b, o + 4, none⟩ = some (.int .i64 d) := hc 4 (by decide) 0 (by decide); have c5 : wr.cell? ⟨b, o + 5, none⟩ = some (.int .i64 L) := hc 5 (by decide) 0 (by decide); have c6 : wr.cell? ⟨b, o + 6, none⟩ = some (.int .i64 F) := hc 6 (by decide) 0 (by decide); clear hc hs)
  ((first | refine region_box 23 31 [.int .i64 0, .int .i64 0, .int .i64 0, .int .i64 0, .bool false, .int .i64 0, .int .i64 0] [.int .i64 W, .int .i64 H, .int .i64 Z, .int .i64 N, .bool D, .int .i64 L, .int .i64 F] (by kernel_rfl) (by kernel_rfl) ?_ | refine region_box0 23 31 [.int .i64 0, .int .i64 0, .int .i64 0, .int .i64 0, .bool false, .int .i64 0, .int .i64 0] [.int .i64 W, .int .i64 H, .int .i64 Z, .int .i64 N, .bool D, .int .i64 L, .int .i64 F] (by kernel_rfl) (by kernel_rfl) ?_); simp only [List.take_succ_cons, List.take_zero, List.drop_succ_cons, List.drop_zero])
  repeat (refine headS_step (fun K hK => ?_); go_simp; refine hK _ ?_; clear hK K)
  refine headS_nil ?_
  refine tail_box (by go_simp) (fun X d => by go_simp) (fun b => by go_simp) (fun b w hb => by go_simp) (fun b => ?_)
  refine tail_done (fun X1 X2 dd hb => ?_)
  subst hb
  simp only [Act.put, List.setIfInBounds_toArray, List.set_cons_zero, List.set_cons_succ]
  clear c0 c1 c2 c3 c4 c5 c6 hbl
  have hH : (more ((more wr X1 0).alloc (.cells ⟨[.int .i64 W, .int .i64 H, .int .i64 Z, .int .i64 N, .bool D, .int .i64 L, .int .i64 F]⟩ 31)) X2 dd).heap[(more wr X1 0).heap.size]? = some (.cells ⟨[.int .i64 W, .int .i64 H, .int .i64 Z, .int .i64 N, .bool D, .int .i64 L, .int .i64 F]⟩ 31 (0, 0)) := by
    rw [heap_more _ (by simp)]; exact heap_at_new rfl
  have hr0 : wr.heap[w.heap.size]? = some (.cells #[.int .i64 0, .int .i64 0, .int .i64 0, .int .i64 0, .bool false, .int .i64 0, .int .i64 0] 31 (0, 0)) := by
    rw [HWR.out, heap_more _ (by simp)]; exact heap_at_new rfl
  have hlt0 : w.heap.size < wr.heap.size := (Array.getElem?_eq_some_iff.1 hr0).1
  have hlz : (more wr X1 0).heap.size < (more ((more wr X1 0).alloc (.cells ⟨[.int .i64 W, .int .i64 H, .int .i64 Z, .int .i64 N, .bool D, .int .i64 L, .int .i64 F]⟩ 31)) X2 dd).heap.size := (Array.getElem?_eq_some_iff.1 hH).1
  have hbz : Below wr.heap.size wr (more ((more wr X1 0).alloc (.cells ⟨[.int .i64 W, .int .i64 H, .int .i64 Z, .int .i64 N, .bool D, .int .i64 L, .int .i64 F]⟩ 31)) X2 dd) := (by repeat (first | exact Below.refl _ _ | refine Below.drew ?_ | refine Below.alloc ?_ (by first | exact Nat.le_refl _ | (simp; done) | (simp; omega) | omega) _ | refine Below.more ?_ (by first | exact Nat.le_refl _ | (simp; done) | (simp; omega) | omega) _ _ | refine Below.setCell ?_ (by first | exact Nat.le_refl _ | (simp; done) | (simp; omega) | omega) _ | assumption))
  have hbw : Below w.heap.size w wr := by rw [HWR.out]; exact (by repeat (first | exact Below.refl _ _ | refine Below.drew ?_ | refine Below.alloc ?_ (by first | exact Nat.le_refl _ | (simp; done) | (simp; omega) | omega) _ | refine Below.more ?_ (by first | exact Nat.le_refl _ | (simp; done) | (simp; omega) | omega) _ _ | refine Below.setCell ?_ (by first | exact Nat.le_refl _ | (simp; done) | (simp; omega) | omega) _ | assumption))
  have hne : w.heap.size ≠ (more wr X1 0).heap.size := by simp; omega
  generalize (more ((more wr X1 0).alloc (.cells ⟨[.int .i64 W, .int .i64 H, .int .i64 Z, .int .i64 N, .bool D, .int .i64 L, .int .i64 F]⟩ 31)) X2 dd) = wz at *
  have hbb : (more wr X1 0).heap.size = wr.heap.size + X1.size := by simp
  rw [hbb] at hH hlz hne
  clear hbb
  have hr : wz.heap[w.heap.size]? = some (.cells ⟨[.int .i64 0, .int .i64 0, .int .i64 0, .int .i64 0, .bool false, .int .i64 0, .int .i64 0]⟩ 31 (0, 0)) := by rw [hbz.block _ hlt0]; exact hr0
  have hlw : w.heap.size < wz.heap.size := (Array.getElem?_eq_some_iff.1 hr).1
  have HBW := Lib.hid (hbw.trans (hbz.mono hbw.size))
  have hge : w.heap.size ≤ wr.heap.size + X1.size := by omega
  generalize wr.heap.size + X1.size = bb at hH hlz hne hge ⊢
  have HFORM := Lib.hid (show putB (putB wz w.heap.size [.int .i64 0, .int .i64 0, .int .i64 0, .int .i64 0, .bool false, .int .i64 0, .int .i64 0] 31) bb [.int .i64 W, .int .i64 H, .int .i64 Z, .int .i64 N, .bool D, .int .i64 L, .int .i64 F] 31 = wz by rw [putB_self hr, putB_self hH])
  have hne' : ¬ bb = w.heap.size := fun h => hne h.symm
  clear hH hr0 hlt0 hbz hbw hr HWR
  have HF := Lib.hid (fun W0 (hb : Below w.heap.size w W0) => spec_FormatCamera_c W H Z N D L F W0 (HT.out.below hb))
  have HPB := Lib.hid (fun (zs cs : List Value) X n => show Below w.heap.size w (more (putB (putB wz w.heap.size zs 31) bb cs 31) X n) from Below.more ((HBW.out.trans (Below.putB (Nat.le_refl _))).trans (Below.putB hge)) (by simp; omega) X n)
  by_cases he : camB W H Z N D L F = t
  · have HV2 := Lib.hid (HV.out.trans (if_pos he))
    rw [he] at HF
    clear he
    rw [← HFORM.out]
    go_wp2_with fail
    refine (HF.out _ (by rw [HFORM.out]; exact HBW.out)).mono ?_
    rintro e wn ⟨rfl, hbn⟩; obtain ⟨X, nX, rfl⟩ := Below.ext hbn; clear hbn
    go_wp2
    exact bodyPost_ret (v := .tuple #[camV W H Z N D L F, .bool true]) (by simp [results, Tryd.results16, go_sem, hlw, hne]) rfl ⟨by rw [HV2.out]; rfl, HPB.out _ _ _ _⟩
  · have HV2 := Lib.hid (HV.out.trans (if_neg he))
    clear HV
    have he2 : ¬ (camB W H Z N D L F).toList = t.toList := fun h => he (by rw [Lib.toList_data, Lib.toList_data] at h; rw [ba_eq h])
    have he3 : ¬ t.toList = (camB W H Z N D L F).toList := fun h => he2 h.symm
    have he4 : ((camB W H Z N D L F).toList == t.toList) = false := beq_eq_false_iff_ne.2 he2
    clear he
    generalize camB W H Z N D L F = tv at *
    rw [← HFORM.out]
    go_wp2_with fail
    refine (HF.out _ (by rw [HFORM.out]; exact HBW.out)).mono ?_
    rintro e wn ⟨rfl, hbn⟩; obtain ⟨X, nX, rfl⟩ := Below.ext hbn; clear hbn
    go_wp2
    exact bodyPost_ret (v := .tuple #[camV 0 0 0 0 false 0 0, .bool false]) (by simp [results, Tryd.results16, go_sem, hlw, hne]) rfl ⟨by rw [HV2.out]; rfl, HPB.out _ _ _ _⟩
theorem spec_ParseCamera_c (t : ByteArray) (w : World) (hT : Tabs w) (ht : t.size ≤ 1048576) :
    Calls Tryd.prog 16 #[.string t] w fun e w' => e = .returned (.tuple #[camOpt (parseC t), .bool (parseC t).isSome]) ∧ Below w.heap.size w w' := by
  have hI := fun W (hb : Below w.heap.size w W) => spec_ParseInts_c t W (hT.below hb) ht
  cases hp : parseIs t with
  | none =>
    rw [hp] at hI
    rw [parseC_none hp]
    exact spec_ParseCamera_bad t w [] false (.inl rfl) (by simp) (fun W hb => (hI W hb).mono fun e w' ⟨a, cap, h1, h2, h3⟩ => ⟨a, cap, h1, h3⟩)
  | some l =>
    rw [hp] at hI
    by_cases hl : l.length = 7
    · obtain ⟨W, H, Z, N, d, L, F, rfl⟩ := seven_of hl
      exact spec_ParseCamera_seven t w hT.tab W H Z N d L F _ rfl _ (parseC_seven hp) (fun W hb => (hI W hb).mono fun e w' ⟨a, cap, h1, h2, h3⟩ => ⟨a, cap, h1, h2.sl, h3⟩)
    · rw [parseC_len hp hl]
      exact spec_ParseCamera_bad t w l true (.inr hl) (parseIs_len hp ht) (fun W hb => (hI W hb).mono fun e w' ⟨a, cap, h1, h2, h3⟩ => ⟨a, cap, h1, h3⟩)
end Go.Proofs.YtdkjiafdfenbkaaDoor
