/- Contracts of what the laws do with meshes: equality, sizes, copies, arguments. -/
import Derived.Test.YtbmhehjllchpoaaGreatMesh
namespace Go.Proofs.YtbmhehjllchpoaaGreat
open Go Go.RowKit
set_option maxRecDepth 100000 in
set_option maxHeartbeats 1000000 in
theorem eqIntSS_c (a a' : Option Addr) (cap cap' : Nat) (l : List (List Int)) (n : Nat) (w : World) (hr : FsR w a n l) (hr' : FsR w a' n l) (hn : n ≤ 1048576) (hs : ∀ i, i < n → (faceAt l i).length ≤ 1048576) :
    Calls Tryz.prog 27 #[.slice a n cap, .slice a' n cap'] w fun e w' => e = .returned (.bool true) ∧ Below w.heap.size w w' := by
  obtain ⟨A, K, hr1, hr2, _⟩ := hr
  obtain ⟨A', K', hr1', hr2', _⟩ := hr'
  have HR := Lib.hid hr1
  have HR2 := Lib.hid hr2
  have HR' := Lib.hid hr1'
  have HR2' := Lib.hid hr2'
  have HS := Lib.hid hs
  clear hr1 hr1' hr2 hr2' hs
  go_enter Tryz.func27, Tryz.ntmps27
  go_wp2
  go_loopw [5] (fun i wr => ∃ (k d : Nat) (X : Array Obj), k ≤ n ∧ i = .int .i64 k ∧ wr = more w X d) (fun i _ => n - (intOf i).toNat)
  case atStart => exact ⟨0, _, #[], by omega, rfl, more_self' w⟩
  case round =>
    obtain ⟨k, d, X0, hk, rfl, rfl⟩ := hrel
    by_cases hlt : k < n
    · have hk1 : (k : Int) < (n : Int) := by omega
      have hk0 : (0 : Int) ≤ (k : Int) := by omega
      obtain ⟨b, o, rfl, hb, hc⟩ := HR.out (by omega)
      have c0 : w.cell? ⟨b, o + k, none⟩ = some (.slice (A k) (faceAt l k).length (K k)) := by have := hc k hlt 0 (by omega); rw [Nat.mul_one, Nat.add_zero] at this; exact this
      obtain ⟨b', o', rfl, hb', hc'⟩ := HR'.out (by omega)
      have e0 : w.cell? ⟨b', o' + k, none⟩ = some (.slice (A' k) (faceAt l k).length (K' k)) := by have := hc' k hlt 0 (by omega); rw [Nat.mul_one, Nat.add_zero] at this; exact this
      clear hc hc'
      have hsl : Sl w (A k) 1 (faceAt l k).length (intAt (faceAt l k)) := HR2.out k hlt
      have hsl' : Sl w (A' k) 1 (faceAt l k).length (intAt (faceAt l k)) := HR2'.out k hlt
      have hsn : (faceAt l k).length ≤ 1048576 := HS.out k hlt
      generalize faceAt l k = x at *
      generalize A k = ak at *
      generalize K k = kk at *
      generalize A' k = ak' at *
      generalize K' k = kk' at *
      have HSL := Lib.hid hsl
      have HSL' := Lib.hid hsl'
      clear hsl hsl'
      go_wp2
      (first | refine region_q2 (by kernel_rfl) (by kernel_rfl) ?_ | refine region_q (by kernel_rfl) (by kernel_rfl) ?_)
      repeat (quiet_step (fail))
      (refine wpQuiet_step (fun K hK => ?_); go_simp; refine ⟨_, fun zt => ext_below (eqIntS_c _ _ _ _ x _ _ (HSL.out.more _ _) (HSL'.out.more _ _) (by omega)), hK _ ?_⟩; clear hK K)
      repeat (quiet_step (fail))
      (refine wpQuiet_nil ?_; intro X nX)
      go_wp2
      go_roundw
      case rel => exact ⟨k + 1, _, _, by omega, by go_num, rfl⟩
      case measure => simp [intOf]; omega
    · go_wp2
      go_ret
      exact ⟨rfl, (by repeat (first | exact Below.refl _ _ | refine Below.drew ?_ | refine Below.alloc ?_ (by first | exact Nat.le_refl _ | (simp; done) | (simp; omega) | omega) _ | refine Below.more ?_ (by first | exact Nat.le_refl _ | (simp; done) | (simp; omega) | omega) _ _ | refine Below.setCell ?_ (by first | exact Nat.le_refl _ | (simp; done) | (simp; omega) | omega) _ | assumption))⟩
def FsLeft (l : List (List Int)) (n : Nat) (left : Int) (w : World) (e : Ending) (w' : World) : Prop :=
  ∃ r : Int, e = .returned (.int .i64 r) ∧ Below w.heap.size w w' ∧ (r = -1 ∨ (0 ≤ r ∧ r ≤ left - n ∧ ∀ i, i < n → (faceAt l i).length ≤ 1048576))
set_option maxRecDepth 100000 in
set_option maxHeartbeats 1000000 in
theorem szIntSS_c (a : Option Addr) (cap : Nat) (l : List (List Int)) (n : Nat) (left : Int) (w : World) (hr : FsR w a n l) (h0 : 0 ≤ left) (h1 : left ≤ 1048576) (hnm : n ≤ 9223372036854775807) (hsm : ∀ i, i < n → (faceAt l i).length ≤ 9223372036854775807) :
    Calls Tryz.prog 11 #[.slice a n cap, .int .i64 left] w (FsLeft l n left w) := by
  obtain ⟨A, K, hr, hr2, _⟩ := hr
  clear hr2
  have HR := Lib.hid hr
  have HS := Lib.hid hsm
  clear hr hsm
  by_cases hlt : left - n < 0
  · go_enter Tryz.func11, Tryz.ntmps11
    go_wp2
    go_ret
    exact ⟨-1, rfl, (by repeat (first | exact Below.refl _ _ | refine Below.drew ?_ | refine Below.alloc ?_ (by first | exact Nat.le_refl _ | (simp; done) | (simp; omega) | omega) _ | refine Below.more ?_ (by first | exact Nat.le_refl _ | (simp; done) | (simp; omega) | omega) _ _ | refine Below.setCell ?_ (by first | exact Nat.le_refl _ | (simp; done) | (simp; omega) | omega) _ | assumption)), .inl rfl⟩
  · have hln : (n : Int) ≤ left := by omega
    clear hlt
    go_enter Tryz.func11, Tryz.ntmps11
    go_wp2
    go_loopw [1, 5] (fun m i wr => ∃ (k d : Nat) (X : Array Obj) (r : Int), k ≤ n ∧ i = .int .i64 k ∧ m = .int .i64 r ∧ 0 ≤ r ∧ r ≤ left - n ∧ (∀ i, i < k → (faceAt l i).length ≤ 1048576) ∧ wr = more w X d) (fun _ i _ => n - (intOf i).toNat)
    case atStart => exact ⟨0, _, #[], left - n, by omega, rfl, rfl, by omega, by omega, fun i hi => by omega, more_self' w⟩
    case round =>
      obtain ⟨k, d, X0, r, hk, rfl, rfl, hr0, hr1, hss, rfl⟩ := hrel
      have H4 := Lib.hid hss
      clear hss
      by_cases hlt : k < n
      · have hk1 : (k : Int) < (n : Int) := by omega
        have hk0 : (0 : Int) ≤ (k : Int) := by omega
        have hsl := HS.out k hlt
        have HGX := Lib.hid (show (faceAt l k).length ≤ 1048576 → (∀ i, i < k + 1 → (faceAt l i).length ≤ 1048576) from fun q2 i hi => by
          by_cases hik : i = k
          · subst hik; exact q2
          · exact H4.out i (by omega))
        obtain ⟨b, o, rfl, hb, hc⟩ := HR.out (by omega)
        have c0 : w.cell? ⟨b, o + k, none⟩ = some (.slice (A k) (faceAt l k).length (K k)) := by have := hc k hlt 0 (by omega); rw [Nat.mul_one, Nat.add_zero] at this; exact this
        clear hc
        generalize faceAt l k = x at *
        by_cases hneg : r - x.length < 0
        · have HST := Lib.hid (show Int.szI r x.length = -1 by unfold Int.szI; rw [if_pos hneg])
          go_wp2_with (go_at_call 28; refine (szIntS_c _ _ _ _ _ (by omega) (by omega) hsl).mono ?_; rintro e w' ⟨rfl, rfl⟩; rw [HST.out])
          go_ret
          exact ⟨-1, rfl, (by repeat (first | exact Below.refl _ _ | refine Below.drew ?_ | refine Below.alloc ?_ (by first | exact Nat.le_refl _ | (simp; done) | (simp; omega) | omega) _ | refine Below.more ?_ (by first | exact Nat.le_refl _ | (simp; done) | (simp; omega) | omega) _ _ | refine Below.setCell ?_ (by first | exact Nat.le_refl _ | (simp; done) | (simp; omega) | omega) _ | assumption)), .inl rfl⟩
        · have HST := Lib.hid (show Int.szI r x.length = r - x.length by unfold Int.szI; rw [if_neg hneg])
          have hneg' : 0 ≤ r - x.length := by omega
          go_wp2_with (go_at_call 28; refine (szIntS_c _ _ _ _ _ (by omega) (by omega) hsl).mono ?_; rintro e w' ⟨rfl, rfl⟩; rw [HST.out])
          go_roundw
          case rel => exact ⟨k + 1, _, _, r - x.length, by omega, by go_num, rfl, by omega, by omega, HGX.out (by omega), rfl⟩
          case measure => simp [intOf]; omega
      · have hk' : k = n := by omega
        have HK := Lib.hid hk'
        clear hk'
        go_wp2
        go_ret
        have hss := H4.out
        rw [HK.out] at hss
        exact ⟨r, rfl, (by repeat (first | exact Below.refl _ _ | refine Below.drew ?_ | refine Below.alloc ?_ (by first | exact Nat.le_refl _ | (simp; done) | (simp; omega) | omega) _ | refine Below.more ?_ (by first | exact Nat.le_refl _ | (simp; done) | (simp; omega) | omega) _ _ | refine Below.setCell ?_ (by first | exact Nat.le_refl _ | (simp; done) | (simp; omega) | omega) _ | assumption)), .inr ⟨hr0, hr1, hss⟩⟩
def GivesMesh (w : World) (p : MeshD) (e : Ending) (w' : World) : Prop :=
  ∃ v, e = .returned v ∧ MeshO w' w.heap.size w'.heap.size v p ∧ Below w.heap.size w w'
set_option maxRecDepth 100000 in
theorem toMesh_c (v : Value) (p : MeshD) (w : World) (hr : MeshR w v p) (hs : MeshSz 1048576 p) :
    Calls Tryz.prog 6 #[v] w (GivesMesh w p) := by
  obtain ⟨a, c, a', c', rfl, h1, h2⟩ := hr
  obtain ⟨hs1, hs2, hs3⟩ := hs
  have H1 := Lib.hid h1
  have H2 := Lib.hid h2
  have H3 := Lib.hid hs3
  clear h1 h2 hs3
  go_enter Tryz.func6, Tryz.ntmps6
  go_wp2_with fail
  refine (toVecS_c _ _ _ _ _ (H1.out.below (by repeat (first | exact Below.refl _ _ | refine Below.drew ?_ | refine Below.alloc ?_ (by first | exact Nat.le_refl _ | (simp; done) | (simp; omega) | omega) _ | refine Below.more ?_ (by first | exact Nat.le_refl _ | (simp; done) | (simp; omega) | omega) _ _ | refine Below.setCell ?_ (by first | exact Nat.le_refl _ | (simp; done) | (simp; omega) | omega) _ | assumption))) hs1).mono ?_
  rintro e w1 ⟨a2, c2, rfl, ho, hb⟩
  have HO := Lib.hid ho
  clear ho
  obtain ⟨X, d, rfl⟩ := Below.ext hb
  clear hb
  go_wp2_with fail
  refine (toIntSS_c _ _ _ _ _ (H2.out.below (by repeat (first | exact Below.refl _ _ | refine Below.drew ?_ | refine Below.alloc ?_ (by first | exact Nat.le_refl _ | (simp; done) | (simp; omega) | omega) _ | refine Below.more ?_ (by first | exact Nat.le_refl _ | (simp; done) | (simp; omega) | omega) _ _ | refine Below.setCell ?_ (by first | exact Nat.le_refl _ | (simp; done) | (simp; omega) | omega) _ | assumption))) hs2 H3.out).mono ?_
  rintro e w1 ⟨a3, c3, rfl, ho3, hb, hz⟩
  have HO3 := Lib.hid ho3
  clear ho3
  obtain ⟨Y, d', rfl⟩ := Below.ext hb
  clear hb
  go_wp2
  refine bodyPost_ret (v := .agg #[.slice a2 p.nV c2, .slice a3 p.nF c3]) (by simp [results, Tryz.results6, go_sem]) rfl ?_
  refine ⟨_, rfl, ?_, (by repeat (first | exact Below.refl _ _ | refine Below.drew ?_ | refine Below.alloc ?_ (by first | exact Nat.le_refl _ | (simp; done) | (simp; omega) | omega) _ | refine Below.more ?_ (by first | exact Nat.le_refl _ | (simp; done) | (simp; omega) | omega) _ _ | refine Below.setCell ?_ (by first | exact Nat.le_refl _ | (simp; done) | (simp; omega) | omega) _ | assumption))⟩
  have o3 := HO3.out
  rw [more_more] at o3
  refine ⟨_, _, a2, c2, a3, c3, rfl, ?_, ?_, ?_, ((HO.out.below (more_app (Y := Y) (d' := d'))).move (by simp) (by simp)).wide (Nat.le_refl _) ?_, (o3.move (by simp) (by simp)).wide ?_⟩
  all_goals (simp at hz ⊢; try omega)
set_option maxRecDepth 100000 in
theorem eqMesh_c (v v' : Value) (p : MeshD) (w : World) (hr : MeshR w v p) (hr' : MeshR w v' p) (hs : MeshSz 1048576 p) :
    Calls Tryz.prog 9 #[v, v'] w fun e w' => e = .returned (.bool true) ∧ Below w.heap.size w w' := by
  obtain ⟨a, c, a', c', rfl, h1, h2⟩ := hr
  obtain ⟨b, d, b', d', rfl, h1', h2'⟩ := hr'
  obtain ⟨hs1, hs2, hs3⟩ := hs
  have H1 := Lib.hid h1
  have H2 := Lib.hid h2
  have H1' := Lib.hid h1'
  have H2' := Lib.hid h2'
  have H3 := Lib.hid hs3
  clear h1 h2 h1' h2' hs3
  go_enter Tryz.func9, Tryz.ntmps9
  go_wp2_with (first | (go_at_call 26; refine (eqVecS_c _ _ _ _ _ _ _ (H1.out.below (by repeat (first | exact Below.refl _ _ | refine Below.drew ?_ | refine Below.alloc ?_ (by first | exact Nat.le_refl _ | (simp; done) | (simp; omega) | omega) _ | refine Below.more ?_ (by first | exact Nat.le_refl _ | (simp; done) | (simp; omega) | omega) _ _ | refine Below.setCell ?_ (by first | exact Nat.le_refl _ | (simp; done) | (simp; omega) | omega) _ | assumption))) (H1'.out.below (by repeat (first | exact Below.refl _ _ | refine Below.drew ?_ | refine Below.alloc ?_ (by first | exact Nat.le_refl _ | (simp; done) | (simp; omega) | omega) _ | refine Below.more ?_ (by first | exact Nat.le_refl _ | (simp; done) | (simp; omega) | omega) _ _ | refine Below.setCell ?_ (by first | exact Nat.le_refl _ | (simp; done) | (simp; omega) | omega) _ | assumption))) (by omega)).mono ?_; rintro e wn ⟨rfl, hbn⟩; obtain ⟨X, nX, rfl⟩ := Below.ext hbn; clear hbn) | (go_at_call 27; refine (eqIntSS_c _ _ _ _ _ _ _ (H2.out.below (by repeat (first | exact Below.refl _ _ | refine Below.drew ?_ | refine Below.alloc ?_ (by first | exact Nat.le_refl _ | (simp; done) | (simp; omega) | omega) _ | refine Below.more ?_ (by first | exact Nat.le_refl _ | (simp; done) | (simp; omega) | omega) _ _ | refine Below.setCell ?_ (by first | exact Nat.le_refl _ | (simp; done) | (simp; omega) | omega) _ | assumption))) (H2'.out.below (by repeat (first | exact Below.refl _ _ | refine Below.drew ?_ | refine Below.alloc ?_ (by first | exact Nat.le_refl _ | (simp; done) | (simp; omega) | omega) _ | refine Below.more ?_ (by first | exact Nat.le_refl _ | (simp; done) | (simp; omega) | omega) _ _ | refine Below.setCell ?_ (by first | exact Nat.le_refl _ | (simp; done) | (simp; omega) | omega) _ | assumption))) hs2 H3.out).mono ?_; rintro e wn ⟨rfl, hbn⟩; obtain ⟨X, nX, rfl⟩ := Below.ext hbn; clear hbn))
  all_goals (go_ret; exact ⟨rfl, (by repeat (first | exact Below.refl _ _ | refine Below.drew ?_ | refine Below.alloc ?_ (by first | exact Nat.le_refl _ | (simp; done) | (simp; omega) | omega) _ | refine Below.more ?_ (by first | exact Nat.le_refl _ | (simp; done) | (simp; omega) | omega) _ _ | refine Below.setCell ?_ (by first | exact Nat.le_refl _ | (simp; done) | (simp; omega) | omega) _ | assumption))⟩)
def MeshD.Left (p : MeshD) (left : Int) (w : World) (e : Ending) (w' : World) : Prop :=
  ∃ r : Int, e = .returned (.int .i64 r) ∧ Below w.heap.size w w' ∧ (r = -1 ∨ (0 ≤ r ∧ r ≤ left ∧ MeshSz 1048576 p))
set_option maxRecDepth 100000 in
theorem szMesh_c (v : Value) (p : MeshD) (left : Int) (w : World) (hr : MeshR w v p) (h0 : 0 ≤ left) (h1 : left ≤ 1048576) (hs : MeshSz 9223372036854775807 p) :
    Calls Tryz.prog 4 #[v, .int .i64 left] w (p.Left left w) := by
  obtain ⟨a, c, a', c', rfl, hr1, hr2⟩ := hr
  obtain ⟨hs1, hs2, hs3⟩ := hs
  have H2 := Lib.hid hr2
  have H3 := Lib.hid hs3
  clear hr1 hr2 hs3
  by_cases hneg : left - p.nV < 0
  · have HST := Lib.hid (show Vec.szI left p.nV = -1 by unfold Vec.szI; rw [if_pos hneg])
    go_enter Tryz.func4, Tryz.ntmps4
    go_wp2_with fail
    refine (szVecS_c _ _ _ left _ h0 h1 hs1).mono ?_
    rintro e w' ⟨rfl, rfl⟩
    rw [HST.out]
    go_wp2
    go_ret
    exact ⟨-1, rfl, (by repeat (first | exact Below.refl _ _ | refine Below.drew ?_ | refine Below.alloc ?_ (by first | exact Nat.le_refl _ | (simp; done) | (simp; omega) | omega) _ | refine Below.more ?_ (by first | exact Nat.le_refl _ | (simp; done) | (simp; omega) | omega) _ _ | refine Below.setCell ?_ (by first | exact Nat.le_refl _ | (simp; done) | (simp; omega) | omega) _ | assumption)), .inl rfl⟩
  · have HST := Lib.hid (show Vec.szI left p.nV = left - p.nV by unfold Vec.szI; rw [if_neg hneg])
    have hpos : 0 ≤ left - p.nV := by omega
    go_enter Tryz.func4, Tryz.ntmps4
    go_wp2_with fail
    refine (szVecS_c _ _ _ left _ h0 h1 hs1).mono ?_
    rintro e w' ⟨rfl, rfl⟩
    rw [HST.out]
    go_wp2_with fail
    refine (szIntSS_c _ _ _ _ (left - p.nV) _ (H2.out.below (by repeat (first | exact Below.refl _ _ | refine Below.drew ?_ | refine Below.alloc ?_ (by first | exact Nat.le_refl _ | (simp; done) | (simp; omega) | omega) _ | refine Below.more ?_ (by first | exact Nat.le_refl _ | (simp; done) | (simp; omega) | omega) _ _ | refine Below.setCell ?_ (by first | exact Nat.le_refl _ | (simp; done) | (simp; omega) | omega) _ | assumption))) hpos (by omega) hs2 H3.out).mono ?_
    rintro e wn ⟨r', rfl, hbn, hr⟩
    obtain ⟨Y, nY, rfl⟩ := Below.ext hbn
    clear hbn
    rcases hr with rfl | ⟨t0, t1, t2⟩
    · go_wp2
      go_ret
      exact ⟨-1, rfl, (by repeat (first | exact Below.refl _ _ | refine Below.drew ?_ | refine Below.alloc ?_ (by first | exact Nat.le_refl _ | (simp; done) | (simp; omega) | omega) _ | refine Below.more ?_ (by first | exact Nat.le_refl _ | (simp; done) | (simp; omega) | omega) _ _ | refine Below.setCell ?_ (by first | exact Nat.le_refl _ | (simp; done) | (simp; omega) | omega) _ | assumption)), .inl rfl⟩
    · have HT := Lib.hid t2
      clear t2
      go_wp2
      go_ret
      exact ⟨r', rfl, (by repeat (first | exact Below.refl _ _ | refine Below.drew ?_ | refine Below.alloc ?_ (by first | exact Nat.le_refl _ | (simp; done) | (simp; omega) | omega) _ | refine Below.more ?_ (by first | exact Nat.le_refl _ | (simp; done) | (simp; omega) | omega) _ _ | refine Below.setCell ?_ (by first | exact Nat.le_refl _ | (simp; done) | (simp; omega) | omega) _ | assumption)), .inr ⟨t0, by omega, by omega, by omega, HT.out⟩⟩
set_option maxRecDepth 100000 in
theorem open_Mesh {H : Type} {enc : TypeId × Value → H} {W : World} {v : Value} {d : DataW H} {p : List MemPlace} {base : Nat} (k : Value.okWide Tryz.prog W .any base 25 v) (h : DataW.Trod enc Tryz.prog W 0 (fun _ => true) true 25 v d p) :
    ∃ q : MeshD, Hid (MeshR W v q) ∧ MeshSz 9223372036854775807 q := by
  obtain ⟨cs, rfl, hl, _⟩ := open_flat [22, 23] Tryz.underlying25 (by kernel_rfl) (by kernel_rfl) k
  match cs, hl with
  | [u0, u1], _ =>
    obtain ⟨fuel, hf⟩ := h
    obtain ⟨v0, m0, y0, e0, ht0⟩ := trod_leaf 4 _ _ _ _ 0 22 hf (by decide +kernel)
    obtain ⟨v1, m1, y1, e1, ht1⟩ := trod_leaf 4 _ _ _ _ 1 23 hf (by decide +kernel)
    obtain rfl : u0 = v0 := by simpa [Value.cells] using e0
    obtain rfl : u1 = v1 := by simpa [Value.cells] using e1
    obtain ⟨a, n, cap, rfl, hn, hx⟩ := trod_recs (e := 57) (s := 3) (d := 8) (ts := [3, 3, 3]) Tryz.underlying22 (by kernel_rfl) (by decide) (by decide +kernel) rfl ht0
    obtain ⟨a', n', cap', rfl, hn', hx'⟩ := trod_recs (e := 41) (s := 1) (d := 8) (ts := [41]) Tryz.underlying23 (by kernel_rfl) (by decide) (by decide +kernel) rfl ht1
    unfold maxLen at hn hn'
    have hV : ∃ l : List VecD, l.length = n ∧ Sl W a 3 n (VecD.at l) := by
      by_cases h0 : n = 0
      · subst h0; exact ⟨[], rfl, Sl.none⟩
      · obtain ⟨b, o, rfl, hb, hc⟩ := hx (by omega)
        have get : ∀ i, i < n → ((List.range n).map fun i => (⟨intC (W.cell? ⟨b, o + i * 3 + 0, none⟩), intC (W.cell? ⟨b, o + i * 3 + 1, none⟩), intC (W.cell? ⟨b, o + i * 3 + 2, none⟩)⟩ : VecD)).getD i default = ⟨intC (W.cell? ⟨b, o + i * 3 + 0, none⟩), intC (W.cell? ⟨b, o + i * 3 + 1, none⟩), intC (W.cell? ⟨b, o + i * 3 + 2, none⟩)⟩ := by
          intro i hi
          rw [List.getD_eq_getElem?_getD, List.getElem?_map, List.getElem?_range hi]; rfl
        refine ⟨(List.range n).map fun i => (⟨intC (W.cell? ⟨b, o + i * 3 + 0, none⟩), intC (W.cell? ⟨b, o + i * 3 + 1, none⟩), intC (W.cell? ⟨b, o + i * 3 + 2, none⟩)⟩ : VecD), by simp, fun _ => ⟨b, o, rfl, hb, fun i hi j hj => ?_⟩⟩
        unfold VecD.at
        rw [get i hi]
        obtain ⟨u, m, y, hu, ht⟩ := hc i hi j hj
        rw [hu]
        obtain rfl | rfl | rfl : j = 0 ∨ j = 1 ∨ j = 2 := by omega
        all_goals
          obtain ⟨z, e1, _, _⟩ := DataW.trod_int Tryz.underlying3 ht
          obtain rfl : u = .int .i64 z := by simpa using e1
          simp only [hu, intC]; rfl
    have hF : ∃ l : List (List Int), l.length = n' ∧ FsR W a' n' l ∧ ∀ i, i < n' → (faceAt l i).length ≤ 9223372036854775807 := by
      by_cases h0 : n' = 0
      · subst h0
        exact ⟨[], rfl, ⟨fun _ => none, fun _ => 0, Sl.none, fun i hi => absurd hi (Nat.not_lt_zero i), fun i hi => absurd hi (Nat.not_lt_zero i)⟩, fun i hi => absurd hi (Nat.not_lt_zero i)⟩
      · obtain ⟨b, o, rfl, hb, hc⟩ := hx' (by omega)
        have one : ∀ i, i < n' → ∃ (x : List Int) (aa : Option Addr) (cc : Nat), W.cell? ⟨b, o + i * 1 + 0, none⟩ = some (.slice aa x.length cc) ∧ Sl W aa 1 x.length (intAt x) ∧ x.length ≤ cc ∧ x.length ≤ 9223372036854775807 := by
          intro i hi
          obtain ⟨c3, _, _, hc3, k3⟩ := hc i hi 0 (by decide)
          obtain ⟨a3, n3, cap3, rfl, hnc, hn3, hx3⟩ := trod_recs_cap (e := 3) (s := 1) (d := 8) (ts := [3]) Tryz.underlying41 (by kernel_rfl) (by decide) (by decide +kernel) rfl k3
          unfold maxLen at hn3
          have hl : ∃ l : List Int, l.length = n3 ∧ Sl W a3 1 n3 (intAt l) := by
            by_cases h3 : n3 = 0
            · subst h3; exact ⟨[], rfl, Sl.none⟩
            · obtain ⟨b3, o3, rfl, hb3, hc3'⟩ := hx3 (by omega)
              refine ⟨(List.range n3).map fun i => intC (W.cell? ⟨b3, o3 + i * 1 + 0, none⟩), by simp, fun _ => ⟨b3, o3, rfl, hb3, fun i hi j hj => ?_⟩⟩
              obtain ⟨u, _, _, hu, ku⟩ := hc3' i hi j hj
              obtain rfl : j = 0 := by omega
              obtain ⟨z, q, _, _⟩ := DataW.trod_int Tryz.underlying3 ku
              obtain rfl : u = .int .i64 z := by simpa using q
              have g : ((List.range n3).map fun i => intC (W.cell? ⟨b3, o3 + i * 1 + 0, none⟩)).getD i 0 = intC (W.cell? ⟨b3, o3 + i * 1 + 0, none⟩) := by
                rw [List.getD_eq_getElem?_getD, List.getElem?_map, List.getElem?_range hi]; rfl
              unfold intAt
              rw [g, hu]; rfl
          obtain ⟨l, hl1, hl2⟩ := hl
          subst hl1
          exact ⟨l, a3, cap3, hc3, hl2, hnc, hn3⟩
        have H : ∀ i, ∃ y : List Int × Option Addr × Nat, i < n' → W.cell? ⟨b, o + i * 1 + 0, none⟩ = some (.slice y.2.1 y.1.length y.2.2) ∧ Sl W y.2.1 1 y.1.length (intAt y.1) ∧ y.1.length ≤ y.2.2 ∧ y.1.length ≤ 9223372036854775807 := by
          intro i
          by_cases hi : i < n'
          · obtain ⟨x, aa, cc, h1⟩ := one i hi
            exact ⟨(x, aa, cc), fun _ => h1⟩
          · exact ⟨([], none, 0), fun h => absurd h hi⟩
        have ch : ∃ (X : Nat → List Int) (A : Nat → Option Addr) (K : Nat → Nat), ∀ i, i < n' → W.cell? ⟨b, o + i * 1 + 0, none⟩ = some (.slice (A i) (X i).length (K i)) ∧ Sl W (A i) 1 (X i).length (intAt (X i)) ∧ (X i).length ≤ K i ∧ (X i).length ≤ 9223372036854775807 :=
          ⟨fun i => (Classical.choose (H i)).1, fun i => (Classical.choose (H i)).2.1, fun i => (Classical.choose (H i)).2.2, fun i hi => Classical.choose_spec (H i) hi⟩
        obtain ⟨X, A, K, hX⟩ := ch
        have get : ∀ i, i < n' → faceAt ((List.range n').map X) i = X i := by
          intro i hi
          unfold faceAt
          rw [List.getD_eq_getElem?_getD, List.getElem?_map, List.getElem?_range hi]; rfl
        refine ⟨(List.range n').map X, by simp, ⟨A, K, fun _ => ⟨b, o, rfl, hb, fun i hi j hj => ?_⟩, fun i hi => ?_, fun i hi => ?_⟩, fun i hi => ?_⟩
        · obtain rfl : j = 0 := by omega
          unfold facesAt; rw [get i hi]; exact (hX i hi).1
        · rw [get i hi]; exact (hX i hi).2.1
        · rw [get i hi]; exact (hX i hi).2.2.1
        · rw [get i hi]; exact (hX i hi).2.2.2
    obtain ⟨lV, hV1, hV2⟩ := hV
    obtain ⟨lF, hF1, hF2, hF3⟩ := hF
    exact ⟨⟨lV, lF, n, n', hV1, hF1⟩, Lib.hid ⟨a, cap, a', cap', rfl, hV2, hF2⟩, hn, hn', hF3⟩
end Go.Proofs.YtbmhehjllchpoaaGreat
