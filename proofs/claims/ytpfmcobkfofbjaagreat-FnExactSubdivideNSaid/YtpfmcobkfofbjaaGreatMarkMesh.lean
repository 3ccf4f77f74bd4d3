/- Contracts of marking a mesh. -/
import Derived.Test.YtpfmcobkfofbjaaGreatMesh2
namespace Go.Proofs.YtpfmcobkfofbjaaGreat
open Go Go.RowKit
theorem chg_putB {w : World} {g : Nat} {arr arr' : List Value} {e : TypeId} {X : Array Obj} {d : Nat} : Chg g (g + 1) (putB w g arr e) (more (putB w g arr' e) X d) := by
  refine ⟨rfl, rfl, rfl, by simp, fun k hk ho => ?_⟩
  have hk' : k < w.heap.size := by simpa using hk
  rw [heap_more k (by simpa using hk'), heap_putB_other k (by omega), heap_putB_other k (by omega)]
/-- A count comes back; the blocks from lo on and before hi alone have changed. -/
def Marks (lo hi B : Nat) (w : World) (e : Ending) (w' : World) : Prop := ∃ m : Nat, e = .returned (.int .i64 (m : Int)) ∧ m ≤ B ∧ Chg lo hi w w'
theorem markIntS_i (x : Int) (m : Nat) (e : x = (m : Int)) (a : Option Addr) (cap : Nat) (l : List Int) (n lo hi : Nat) (w : World) (hown : Ow w lo hi a 1 n (intAt l)) (hn : n ≤ 100000000) (hk0 : m ≤ 100000000000000) :
    Calls Tryz.prog 73 #[.slice a n cap, .int .i64 x] w fun e w' => e = .returned (.int .i64 ((m + n : Nat) : Int)) ∧ Ow w' lo hi a 1 n (intMk l m) ∧ Chg lo hi w w' := by
  subst e; exact markIntS_c a cap l n m lo hi w hown hn hk0
set_option maxRecDepth 100000 in
set_option maxHeartbeats 2000000 in
theorem markIntSS_c (a : Option Addr) (cap : Nat) (l : List (List Int)) (n k0 lo hi : Nat) (w : World) (hown : FsO w lo hi a n l) (hlh : lo + 1 ≤ hi) (hn : n ≤ 1048576) (hs : ∀ i, i < n → (faceAt l i).length ≤ 1048576) (hk0 : k0 ≤ 104857600) :
    Calls Tryz.prog 34 #[.slice a n cap, .int .i64 (k0 : Int)] w (Marks lo hi (k0 + n * 1048576) w) := by
  by_cases h00 : n = 0
  · subst h00
    clear hown
    go_enter Tryz.func34, Tryz.ntmps34
    go_wp2
    go_rounds 1
    go_ret
    exact ⟨k0, rfl, by omega, Chg.refl _ _ _⟩
  · obtain ⟨A, K, h1, ⟨bb, hb0, hbn, hrows⟩, _⟩ := hown
    obtain ⟨g, arr0, e, rfl, hlo, hhi, hg, hl, hx⟩ := h1 (by omega)
    obtain rfl : g = lo := by omega
    have hgs := (Array.getElem?_eq_some_iff.1 hg).1
    have HX := Lib.hid hx
    have HB := Lib.hid hrows
    have HS := Lib.hid hs
    have HG := Lib.hid hg
    have HB0 := Lib.hid hb0
    have HBN := Lib.hid hbn
    clear hg hx hrows hs hl hb0 hbn h1
    go_enter Tryz.func34, Tryz.ntmps34
    go_wp2
    go_loopw [1, 5] (fun k i wr => ∃ (m r : Nat), m ≤ n ∧ i = .int .i64 m ∧ k = .int .i64 r ∧ r ≤ k0 + m * 1048576 ∧ wr.heap[g]? = some (.cells ⟨arr0⟩ e (0, 0)) ∧ (∀ i, m ≤ i → i < n → Ow wr (bb i) (bb (i + 1)) (A i) 1 (faceAt l i).length (intAt (faceAt l i))) ∧ Chg g hi w wr) (fun _ i _ => n - (intOf i).toNat)
    case atStart => exact ⟨0, k0, by omega, rfl, rfl, by omega, HG.out, fun i _ hi => HB.out.2 i hi, Chg.refl _ _ _⟩
    case round =>
      obtain ⟨m, r, hm, rfl, rfl, hr, hg, ho, hchg⟩ := hrel
      have hgw := (Array.getElem?_eq_some_iff.1 hg).1
      have HG2 := Lib.hid hg
      have HO2 := Lib.hid ho
      have HC2 := Lib.hid hchg
      clear ho hchg hg
      by_cases hlt : m < n
      · have hk1 : (m : Int) < (n : Int) := by omega
        have hk0' : (0 : Int) ≤ (m : Int) := by omega
        have c0 : wr.cell? ⟨g, m, none⟩ = some (.slice (A m) (faceAt l m).length (K m)) := by
          rw [cell_of_row wr g m ⟨arr0⟩ e (0, 0) HG2.out]
          have := HX.out m hlt 0 (by omega)
          rw [Nat.mul_one, Nat.add_zero] at this
          simpa [facesAt] using this
        have HOM := Lib.hid (HO2.out m (Nat.le_refl _) hlt)
        have hbm : g + 1 ≤ bb m := Nat.le_trans HB0.out (HB.out.le (Nat.zero_le _) (by omega))
        have hbm2 : bb (m + 1) ≤ hi := Nat.le_trans (HB.out.le (by omega) (Nat.le_refl _)) HBN.out
        have hbm3 : bb m ≤ bb (m + 1) := HB.out.1 m hlt
        have hsn := HS.out m hlt
        have HHM := Lib.hid (show g + 1 ≤ bb m ∧ bb (m + 1) ≤ hi ∧ bb m ≤ bb (m + 1) from ⟨hbm, hbm2, hbm3⟩)
        clear hbm hbm2 hbm3
        go_wp2_with fail
        refine (markIntS_i _ r (by omega) _ _ (faceAt l m) _ (bb m) (bb (m + 1)) _ HOM.out (by omega) (by omega)).mono ?_
        rintro e2 w2 ⟨rfl, ho2, g2⟩
        have HG3 := Lib.hid g2
        clear g2 ho2
        go_wp2
        have hq := HHM.out
        refine ⟨⟨m + 1, r + (faceAt l m).length, by omega, by go_num, by first | rfl | go_num, by omega, ?_, ?_, ?_⟩, by simp only [intOf]; omega⟩
        · rw [HG3.out.block g hgw (.inl (by omega))]; exact HG2.out
        · intro i hi1 hi2
          have hle := HB.out.le (show m + 1 ≤ i by omega) (by omega)
          exact (HO2.out i (by omega) hi2).chg HG3.out (.inr hle)
        · exact HC2.out.trans (HG3.out.wide (by omega) (by omega))
      · have hk' : m = n := by omega
        have HK := Lib.hid hk'
        clear hk'
        go_wp2
        go_ret
        exact ⟨r, rfl, by rw [← HK.out]; exact hr, HC2.out⟩
set_option maxRecDepth 100000 in
theorem markMesh_c (v : Value) (p : MeshD) (k0 lo hi : Nat) (w : World) (ho : MeshO w lo hi v p) (hs : MeshSz 1048576 p) (hk0 : k0 ≤ 1048576) (hh : hi ≤ w.heap.size) :
    Calls Tryz.prog 10 #[v, .int .i64 (k0 : Int)] w fun e w' => ∃ m : Nat, e = .returned (.int .i64 (m : Int)) ∧ Chg lo hi w w' := by
  obtain ⟨l1, mid, a, c, a', c', rfl, q1, q2, q3, o1, o2⟩ := ho
  obtain ⟨hs1, hs2, hs3⟩ := hs
  have H1 := Lib.hid o1
  have H2 := Lib.hid o2
  have H3 := Lib.hid hs3
  clear o1 o2 hs3
  go_enter Tryz.func10, Tryz.ntmps10
  go_wp2_with fail
  refine (markVecS_c _ _ _ _ k0 l1 mid _ (H1.out.below (by repeat (first | exact Below.refl _ _ | refine Below.drew ?_ | refine Below.alloc ?_ (by first | exact Nat.le_refl _ | (simp; done) | (simp; omega) | omega) _ | refine Below.more ?_ (by first | exact Nat.le_refl _ | (simp; done) | (simp; omega) | omega) _ _ | refine Below.setCell ?_ (by first | exact Nat.le_refl _ | (simp; done) | (simp; omega) | omega) _ | assumption))) (by omega) (by omega)).mono ?_
  rintro e w1 ⟨rfl, _, g1⟩
  have c0 : w1.cell? ⟨w.heap.size, 0, none⟩ = some (.slice a p.nV c) := cell_chg g1 (.inr (by omega)) (by simp [go_sem])
  have c1 : w1.cell? ⟨w.heap.size, 1, none⟩ = some (.slice a' p.nF c') := cell_chg g1 (.inr (by omega)) (by simp [go_sem])
  have o3 := (H2.out.below (w' := w.alloc (.cells #[.slice a p.nV c, .slice a' p.nF c'] 29)) (by repeat (first | exact Below.refl _ _ | refine Below.drew ?_ | refine Below.alloc ?_ (by first | exact Nat.le_refl _ | (simp; done) | (simp; omega) | omega) _ | refine Below.more ?_ (by first | exact Nat.le_refl _ | (simp; done) | (simp; omega) | omega) _ _ | refine Below.setCell ?_ (by first | exact Nat.le_refl _ | (simp; done) | (simp; omega) | omega) _ | assumption))).chg g1 (.inr (Nat.le_refl _)) q3
  have O3 := Lib.hid o3
  have G1 := Lib.hid g1
  clear o3 g1
  go_wp2_with fail
  refine (markIntSS_c _ _ _ _ (k0 + p.nV * 3) mid hi _ O3.out q3 hs2 H3.out (by omega)).mono ?_
  rintro e w2 ⟨m, rfl, _, g2⟩
  go_wp2
  go_ret
  refine ⟨m, rfl, ?_⟩
  exact (((Chg.of_below (lo := lo) (hi := hi) (by repeat (first | exact Below.refl _ _ | refine Below.drew ?_ | refine Below.alloc ?_ (by first | exact Nat.le_refl _ | (simp; done) | (simp; omega) | omega) _ | refine Below.more ?_ (by first | exact Nat.le_refl _ | (simp; done) | (simp; omega) | omega) _ _ | refine Below.setCell ?_ (by first | exact Nat.le_refl _ | (simp; done) | (simp; omega) | omega) _ | assumption))).trans (G1.out.wide q1 (by omega))).trans (g2.wide (by omega) (Nat.le_refl _)))
end Go.Proofs.YtpfmcobkfofbjaaGreat
