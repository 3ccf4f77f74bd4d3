/- Dicing a part of a grid: the walk of the spec. -/
import Derived.Test.YtkdkdejgajcneaaDiceG
namespace Go.Proofs.Ytkdkdejgajcneaa
open Go Go.RowKit
set_option linter.unusedVariables false
/-- The micropolygons of the first t cells of a part of k columns. -/
def gridD (c : CamD) (p : PatD) (U V : Int) (k : Nat) (n lx ly : Int) (t : Nat) : List MicropolygonD := (List.range t).flatMap fun (s : Nat) => dcD c p (U * (k : Int) + (s : Int) % (k : Int)) (V * (k : Int) + (s : Int) / (k : Int)) n lx ly
theorem gridD_succ (c : CamD) (p : PatD) (U V : Int) (k : Nat) (n lx ly : Int) (t : Nat) : gridD c p U V k n lx ly (t + 1) = gridD c p U V k n lx ly t ++ dcD c p (U * (k : Int) + (t : Int) % (k : Int)) (V * (k : Int) + (t : Int) / (k : Int)) n lx ly := by
  simp [gridD, List.range_succ]
theorem gridD_at (c : CamD) (p : PatD) (U V : Int) (k : Nat) (n lx ly : Int) {u v : Nat} (hu : u < k) : gridD c p U V k n lx ly (v * k + (u + 1)) = gridD c p U V k n lx ly (v * k + u) ++ dcD c p (U * (k : Int) + (u : Int)) (V * (k : Int) + (v : Int)) n lx ly := by
  have h1 : ((v * k + u : Nat) : Int) % (k : Int) = (u : Int) := by
    rw [← Int.natCast_emod, Nat.mul_comm, Nat.mul_add_mod, Nat.mod_eq_of_lt hu]
  have h2 : ((v * k + u : Nat) : Int) / (k : Int) = (v : Int) := by
    rw [← Int.natCast_ediv, Nat.mul_comm, Nat.mul_add_div (by omega), Nat.div_eq_of_lt hu, Nat.add_zero]
  rw [← Nat.add_assoc, gridD_succ, h1, h2]
theorem gridD_len (c : CamD) (p : PatD) (U V : Int) (k : Nat) (n lx ly : Int) (t : Nat) : (gridD c p U V k n lx ly t).length ≤ 2 * t := by
  induction t with
  | zero => simp [gridD]
  | succ t ih =>
    rw [gridD_succ, List.length_append]
    have := dcD_len c p (U * (k : Int) + (t : Int) % (k : Int)) (V * (k : Int) + (t : Int) / (k : Int)) n lx ly
    omega
def dsIn (U V N n : Int) : Bool := subPOk U V N && inB n 1 8 && decide (n.tmod N = 0)
def dsK (N n : Int) : Nat := (n / N).toNat
def dsD (c : CamD) (p : PatD) (U V N n lx ly : Int) : List MicropolygonD := if dsIn U V N n then gridD c p U V (dsK N n) n lx ly (dsK N n * dsK N n) else []
structure DsF (U V N n : Int) (k : Nat) : Prop where
  k1 : 1 ≤ k
  k8 : k ≤ 8
  q : n.tdiv N = (k : Int)
  r : n.tmod N = 0
  nb : 1 ≤ n ∧ n ≤ 8
  N0 : ¬ N = 0
  u : 0 ≤ U * (k : Int) ∧ U * (k : Int) ≤ 512
  v : 0 ≤ V * (k : Int) ∧ V * (k : Int) ≤ 512
theorem dsF {U V N n : Int} (h : dsIn U V N n = true) : DsF U V N n (dsK N n) := by
  simp only [dsIn, subPOk, Bool.and_eq_true, decide_eq_true_eq] at h
  obtain ⟨⟨⟨⟨h1, h2⟩, h3⟩, h4⟩, h5⟩ := h
  have hN := pow2_bd h1
  have hU := inB_true.1 h2
  have hV := inB_true.1 h3
  have hn := inB_true.1 h4
  have h5' : n % N = 0 := by rw [← Int.tmod_eq_emod_of_nonneg (by omega)]; exact h5
  have hq : n.tdiv N = n / N := Int.tdiv_eq_ediv_of_nonneg (by omega)
  have hdm : N * (n / N) = n := by have := Int.mul_ediv_add_emod n N; rw [h5', Int.add_zero] at this; exact this
  have hk0 : 0 ≤ n / N := Int.ediv_nonneg (by omega) (by omega)
  have hk8 : n / N ≤ 8 := Int.le_trans (Int.ediv_le_self _ (by omega)) hn.2
  have hk1 : n / N ≠ 0 := fun e => by rw [e, Int.mul_zero] at hdm; omega
  have hc : ((dsK N n : Nat) : Int) = n / N := Int.toNat_of_nonneg hk0
  have hb : ∀ U : Int, 0 ≤ U → U ≤ 64 → 0 ≤ U * (n / N) ∧ U * (n / N) ≤ 512 := fun U a b => by
    refine ⟨Int.mul_nonneg a hk0, ?_⟩
    have h1 := Int.mul_le_mul_of_nonneg_right (a := U) (b := 64) (c := n / N) b hk0
    omega
  refine ⟨by omega, by omega, by rw [hq, hc], h5, hn, by omega, ?_, ?_⟩
  · rw [hc]; exact hb U hU.1 (by omega)
  · rw [hc]; exact hb V hV.1 (by omega)
theorem gives_of_mic {w w' : World} {v : Value} {L : List MicropolygonD} (h : w'.ownsRow w.heap.size 45 12 v L.length (micCells L)) (hb : Below w.heap.size w w') : Gives w 12 L.length (MicropolygonD.at L) (.returned v) w' :=
  gives_of_flat (e := 45) (by rw [micCells_flat]; exact h) (fun _ _ => rfl) hb
theorem ownsRow_base {w : World} {b b' : Nat} {e : TypeId} {s : Nat} {v : Value} {n : Nat} {xs : List Value} (h : w.ownsRow b e s v n xs) (hb : b' ≤ b) : w.ownsRow b' e s v n xs :=
  ⟨h.1, h.2.imp id fun ⟨g, cap, cur, e1, e2, r⟩ => ⟨g, cap, cur, e1, Nat.le_trans hb e2, r⟩⟩
set_option maxRecDepth 100000 in
set_option maxHeartbeats 4000000 in
theorem spec_DiceSubPatch_no (c : CamD) (p : PatD) (U V N n lx ly : Int) (w : World) (hin : dsIn U V N n = false) :
    Calls Try.prog 31 #[c.val, p.val, subV U V N, .int .i64 n, .int .i64 lx, .int .i64 ly] w (Gives w 12 0 (MicropolygonD.at [])) := by
  cases h1 : subPOk U V N
  · go_enter Try.func31, Try.ntmps31
    go_wp2_with (go_at_call 75; refine (spec_IsValidSubPatch_c _ _ _ _).mono ?_; rw [h1]; rintro e wn ⟨rfl, hbn⟩; obtain ⟨X, nX, rfl⟩ := Below.ext hbn; clear hbn)
    go_ret
    exact Gives.nil (by repeat (first | exact Below.refl _ _ | refine Below.drew ?_ | refine Below.alloc ?_ (by first | exact Nat.le_refl _ | (simp; done) | (simp; omega) | omega) _ | refine Below.more ?_ (by first | exact Nat.le_refl _ | (simp; done) | (simp; omega) | omega) _ _ | refine Below.setCell ?_ (by first | exact Nat.le_refl _ | (simp; done) | (simp; omega) | omega) _ | assumption))
  · cases h2 : inB n 1 8
    · go_enter Try.func31, Try.ntmps31
      go_wp2_with (first | (go_at_call 75; refine (spec_IsValidSubPatch_c _ _ _ _).mono ?_; rw [h1]; rintro e wn ⟨rfl, hbn⟩; obtain ⟨X, nX, rfl⟩ := Below.ext hbn; clear hbn) | (go_at_call 68; refine (l01In_c _ _ _ _).mono ?_; rw [h2]; rintro e w' ⟨rfl, rfl⟩))
      go_ret
      exact Gives.nil (by repeat (first | exact Below.refl _ _ | refine Below.drew ?_ | refine Below.alloc ?_ (by first | exact Nat.le_refl _ | (simp; done) | (simp; omega) | omega) _ | refine Below.more ?_ (by first | exact Nat.le_refl _ | (simp; done) | (simp; omega) | omega) _ _ | refine Below.setCell ?_ (by first | exact Nat.le_refl _ | (simp; done) | (simp; omega) | omega) _ | assumption))
    · have hN : ¬ N = 0 := by
        have : pow2B N = true := by simp only [subPOk, Bool.and_eq_true] at h1; exact h1.1.1
        have := pow2_bd this
        omega
      have hr : ¬ n.tmod N = 0 := by simpa [dsIn, h1, h2] using hin
      go_enter Try.func31, Try.ntmps31
      go_wp2_with (first | (go_at_call 75; refine (spec_IsValidSubPatch_c _ _ _ _).mono ?_; rw [h1]; rintro e wn ⟨rfl, hbn⟩; obtain ⟨X, nX, rfl⟩ := Below.ext hbn; clear hbn) | (go_at_call 68; refine (l01In_c _ _ _ _).mono ?_; rw [h2]; rintro e w' ⟨rfl, rfl⟩))
      go_ret
      exact Gives.nil (by repeat (first | exact Below.refl _ _ | refine Below.drew ?_ | refine Below.alloc ?_ (by first | exact Nat.le_refl _ | (simp; done) | (simp; omega) | omega) _ | refine Below.more ?_ (by first | exact Nat.le_refl _ | (simp; done) | (simp; omega) | omega) _ _ | refine Below.setCell ?_ (by first | exact Nat.le_refl _ | (simp; done) | (simp; omega) | omega) _ | assumption))
set_option maxRecDepth 100000 in
set_option maxHeartbeats 8000000 in
theorem spec_DiceSubPatch_in (c : CamD) (p : PatD) (U V N n lx ly : Int) (w : World) (hin : dsIn U V N n = true) :
    Calls Try.prog 31 #[c.val, p.val, subV U V N, .int .i64 n, .int .i64 lx, .int .i64 ly] w (Gives w 12 (gridD c p U V (dsK N n) n lx ly (dsK N n * dsK N n)).length (MicropolygonD.at (gridD c p U V (dsK N n) n lx ly (dsK N n * dsK N n)))) := by
  obtain ⟨k1, k8, q1, r1, ⟨n1, n2⟩, N0, ⟨u1, u2⟩, v1, v2⟩ := dsF hin
  have hh := hin
  simp only [dsIn, Bool.and_eq_true] at hh
  obtain ⟨⟨o1, o2⟩, o3⟩ := hh
  clear hin o3
  generalize dsK N n = k at *
  have qk : IntKind.i64.wrap (k : Int) = (k : Int) := IntWalk.i64_in _ (by omega)
  have qU : IntKind.i64.wrap (U * (k : Int)) = U * (k : Int) := IntWalk.i64_in _ (by omega)
  have qV : IntKind.i64.wrap (V * (k : Int)) = V * (k : Int) := IntWalk.i64_in _ (by omega)
  have HLEN := Lib.hid (fun t => gridD_len c p U V k n lx ly t)
  have HAT := Lib.hid (fun (u v : Nat) (hu : u < k) => gridD_at c p U V k n lx ly (u := u) (v := v) hu)
  have hkk : k * k ≤ 64 := Nat.mul_le_mul k8 k8
  obtain ⟨BW, hBW⟩ : ∃ BW, BW = ((w.alloc (.cells ⟨c.cells⟩ 24)).alloc (.cells ⟨p.cells⟩ 30)).alloc (.cells #[.int .i64 U, .int .i64 V, .int .i64 N] 39) := ⟨_, rfl⟩
  have HBX := Lib.hid (show CPBox BW w.heap.size c p by rw [hBW]; exact (CPBox.new w c p).kept (by repeat (first | exact Below.refl _ _ | refine Below.drew ?_ | refine Below.alloc ?_ (by first | exact Nat.le_refl _ | (simp; done) | (simp; omega) | omega) _ | refine Below.more ?_ (by first | exact Nat.le_refl _ | (simp; done) | (simp; omega) | omega) _ _ | refine Below.setCell ?_ (by first | exact Nat.le_refl _ | (simp; done) | (simp; omega) | omega) _ | assumption)))
  have HSUB := Lib.hid (show BW.heap[w.heap.size + 1 + 1]? = some (.cells ⟨[.int .i64 U, .int .i64 V, .int .i64 N]⟩ 39 (0, 0)) by rw [hBW]; exact heap_at_new (by simp))
  have HB0 := Lib.hid (show Below w.heap.size w BW by rw [hBW]; exact (by repeat (first | exact Below.refl _ _ | refine Below.drew ?_ | refine Below.alloc ?_ (by first | exact Nat.le_refl _ | (simp; done) | (simp; omega) | omega) _ | refine Below.more ?_ (by first | exact Nat.le_refl _ | (simp; done) | (simp; omega) | omega) _ _ | refine Below.setCell ?_ (by first | exact Nat.le_refl _ | (simp; done) | (simp; omega) | omega) _ | assumption)))
  have hsz : w.heap.size + 1 + 1 < BW.heap.size := by rw [hBW]; simp
  have HB1 := Lib.hid (show Below BW.heap.size BW (BW.alloc (.cells #[] 45)) from (by repeat (first | exact Below.refl _ _ | refine Below.drew ?_ | refine Below.alloc ?_ (by first | exact Nat.le_refl _ | (simp; done) | (simp; omega) | omega) _ | refine Below.more ?_ (by first | exact Nat.le_refl _ | (simp; done) | (simp; omega) | omega) _ _ | refine Below.setCell ?_ (by first | exact Nat.le_refl _ | (simp; done) | (simp; omega) | omega) _ | assumption)))
  have HB2 := Lib.hid (show (BW.alloc (.cells #[] 45)).ownsRow BW.heap.size 45 12 (.slice (some ⟨w.heap.size + 1 + 1 + 1, 0, none⟩) 0 0) 0 [] by
    have := World.ownsRow_made (e := 45) (size := 12) (base := BW.heap.size) BW #[] 0 (by simp) (by decide) (by simp)
    rwa [show BW.heap.size = w.heap.size + 1 + 1 + 1 by rw [hBW]; simp] at this ⊢)
  have HW := Lib.hid hBW
  clear hBW
  go_enter Try.func31, Try.ntmps31
  go_wp2_with (first | (go_at_call 75; refine (spec_IsValidSubPatch_c _ _ _ _).mono ?_; rw [o1]; rintro e wn ⟨rfl, hbn⟩; obtain ⟨X, nX, rfl⟩ := Below.ext hbn; clear hbn) | (go_at_call 68; refine (l01In_c _ _ _ _).mono ?_; rw [o2]; rintro e w' ⟨rfl, rfl⟩))
  go_loopw [13, 15] (fun out i wr => ∃ v : Nat, v ≤ k ∧ i = .int .i64 v ∧ Below BW.heap.size BW wr ∧ wr.ownsRow BW.heap.size 45 12 out (gridD c p U V k n lx ly (v * k)).length (micCells (gridD c p U V k n lx ly (v * k)))) (fun _ i _ => k - (intOf i).toNat)
  case atStart =>
    have hW := HW.out
    refine ⟨0, by omega, rfl, ?_, ?_⟩
    · have := HB1.out; rw [hW] at this ⊢; exact this.trans (Below.mono (by repeat (first | exact Below.refl _ _ | refine Below.drew ?_ | refine Below.alloc ?_ (by first | exact Nat.le_refl _ | (simp; done) | (simp; omega) | omega) _ | refine Below.more ?_ (by first | exact Nat.le_refl _ | (simp; done) | (simp; omega) | omega) _ _ | refine Below.setCell ?_ (by first | exact Nat.le_refl _ | (simp; done) | (simp; omega) | omega) _ | assumption)) (by simp))
    · rw [Nat.zero_mul]
      have h2 := HB2.out; rw [hW] at h2 ⊢
      simp only [gridD, List.range_zero, List.flatMap_nil, micCells, List.length_nil]
      exact own_kept h2 (by repeat (first | exact Below.refl _ _ | refine Below.drew ?_ | refine Below.alloc ?_ (by first | exact Nat.le_refl _ | (simp; done) | (simp; omega) | omega) _ | refine Below.more ?_ (by first | exact Nat.le_refl _ | (simp; done) | (simp; omega) | omega) _ _ | refine Below.setCell ?_ (by first | exact Nat.le_refl _ | (simp; done) | (simp; omega) | omega) _ | assumption))
  case round =>
    obtain ⟨v, hv, rfl, hbel, hown⟩ := hrel
    have HBEL := Lib.hid hbel
    have HOWN := Lib.hid hown
    clear hbel hown
    by_cases hlt : v < k
    · have hlt1 : (v : Int) < (k : Int) := by omega
      have qv : IntKind.i64.wrap (V * (k : Int) + (v : Int)) = V * (k : Int) + (v : Int) := IntWalk.i64_in _ (by omega)
      go_wp2
      go_loopw [13, 16] (fun out i wr => ∃ u : Nat, u ≤ k ∧ i = .int .i64 u ∧ Below BW.heap.size BW wr ∧ wr.ownsRow BW.heap.size 45 12 out (gridD c p U V k n lx ly (v * k + u)).length (micCells (gridD c p U V k n lx ly (v * k + u)))) (fun _ i _ => k - (intOf i).toNat)
      case atStart => exact ⟨0, by omega, rfl, HBEL.out, HOWN.out⟩
      case round =>
        obtain ⟨u, hu, rfl, hbel, hown⟩ := hrel
        have HBE2 := Lib.hid hbel
        have HOW2 := Lib.hid hown
        by_cases hlt2 : u < k
        · have hlt3 : (u : Int) < (k : Int) := by omega
          have qu : IntKind.i64.wrap (U * (k : Int) + (u : Int)) = U * (k : Int) + (u : Int) := IntWalk.i64_in _ (by omega)
          have hbx := HBX.out.kept hbel
          have hsu := (hbel.block _ hsz).trans HSUB.out
          have hl2 : w.heap.size + 1 + 1 < wr.heap.size := by have := hbel.size; omega
          have hl0 : w.heap.size < wr.heap.size := by omega
          have hl1 : w.heap.size + 1 < wr.heap.size := by omega
          have c0 : wr.cell? ⟨w.heap.size, 0, none⟩ = some (.int .i64 c.W) := hbx.cc 0
          have c1 : wr.cell? ⟨w.heap.size, 1, none⟩ = some (.int .i64 c.H) := hbx.cc 1
          have c2 : wr.cell? ⟨w.heap.size, 2, none⟩ = some (.int .i64 c.Z) := hbx.cc 2
          have c3 : wr.cell? ⟨w.heap.size, 3, none⟩ = some (.int .i64 c.N) := hbx.cc 3
          have c4 : wr.cell? ⟨w.heap.size, 4, none⟩ = some (.bool c.D) := hbx.cc 4
          have c5 : wr.cell? ⟨w.heap.size, 5, none⟩ = some (.int .i64 c.L) := hbx.cc 5
          have c6 : wr.cell? ⟨w.heap.size, 6, none⟩ = some (.int .i64 c.F) := hbx.cc 6
          have d0 : wr.cell? ⟨w.heap.size + 1, 0, none⟩ = some (.int .i64 p.t0) := hbx.cp 0
          have d1 : wr.cell? ⟨w.heap.size + 1, 1, none⟩ = some (.int .i64 p.t1) := hbx.cp 1
          have d2 : wr.cell? ⟨w.heap.size + 1, 2, none⟩ = some (.int .i64 p.t2) := hbx.cp 2
          have d3 : wr.cell? ⟨w.heap.size + 1, 3, none⟩ = some (.int .i64 p.t3) := hbx.cp 3
          have d4 : wr.cell? ⟨w.heap.size + 1, 4, none⟩ = some (.int .i64 p.t4) := hbx.cp 4
          have d5 : wr.cell? ⟨w.heap.size + 1, 5, none⟩ = some (.int .i64 p.t5) := hbx.cp 5
          have d6 : wr.cell? ⟨w.heap.size + 1, 6, none⟩ = some (.int .i64 p.t6) := hbx.cp 6
          have d7 : wr.cell? ⟨w.heap.size + 1, 7, none⟩ = some (.int .i64 p.t7) := hbx.cp 7
          have d8 : wr.cell? ⟨w.heap.size + 1, 8, none⟩ = some (.int .i64 p.t8) := hbx.cp 8
          have d9 : wr.cell? ⟨w.heap.size + 1, 9, none⟩ = some (.int .i64 p.t9) := hbx.cp 9
          have d10 : wr.cell? ⟨w.heap.size + 1, 10, none⟩ = some (.int .i64 p.t10) := hbx.cp 10
          have d11 : wr.cell? ⟨w.heap.size + 1, 11, none⟩ = some (.int .i64 p.t11) := hbx.cp 11
          have s0 : wr.cell? ⟨w.heap.size + 1 + 1, 0, none⟩ = some (.int .i64 U) := by rw [cell_of_row wr _ 0 _ _ (0, 0) hsu]; rfl
          have s1 : wr.cell? ⟨w.heap.size + 1 + 1, 1, none⟩ = some (.int .i64 V) := by rw [cell_of_row wr _ 1 _ _ (0, 0) hsu]; rfl
          have HA := Lib.hid (HAT.out u v hlt2)
          have HL := Lib.hid (HLEN.out (v * k + u))
          have hvk : v * k + u ≤ 64 := by
            have := Nat.mul_le_mul_right k (show v + 1 ≤ k by omega)
            rw [Nat.add_mul, Nat.one_mul] at this
            omega
          have HC := Lib.hid (fun W => spec_DiceCell_q c p (U * (k : Int) + (u : Int)) (V * (k : Int) + (v : Int)) n lx ly W)
          have HLL := Lib.hid (show (gridD c p U V k n lx ly (v * k + u)).length ≤ 1000 by have := HL.out; omega)
          clear hbx hsu hbel hown HL
          generalize gridD c p U V k n lx ly (v * k + u) = L1 at *
          generalize dcD c p (U * (k : Int) + (u : Int)) (V * (k : Int) + (v : Int)) n lx ly = l at *
          go_wp2_with (first | (go_at_call 25; refine (HC.out _).mono ?_; rintro e wq hq; obtain ⟨r, rfl, hr, hb⟩ := hq.r; have HR := Lib.hid hr; have HB := Lib.hid hb; clear hq hr hb) | (at_builtin; go_loud (refine wpList_append_cell rfl _ _ rfl BW.heap.size _ r L1 l rfl rfl (own_kept HOW2.out HB.out) HR.out HLL.out (Nat.le_trans HBE2.out.size HB.out.size) ?_)))
          intro v' w' hp' hb'
          have HP' := Lib.hid hp'
          have HB' := Lib.hid ((HBE2.out.trans (HB.out.mono HBE2.out.size)).trans hb')
          clear hp' hb'
          go_wp2
          go_roundw
          case rel => exact ⟨u + 1, by omega, by go_num, HB'.out, by rw [HA.out, List.length_append]; exact HP'.out⟩
          case measure => simp [intOf]; omega
        · obtain rfl : u = k := by omega
          clear hbel hown
          have he : (v + 1) * u = v * u + u := by rw [Nat.add_mul, Nat.one_mul]
          have hnl : ¬ (u : Int) < (u : Int) := by omega
          go_wp2
          go_roundw
          case rel => exact ⟨v + 1, by omega, by go_num, HBE2.out, by rw [he]; exact HOW2.out⟩
          case measure => simp [intOf]; omega
    · obtain rfl : v = k := by omega
      have hnl : ¬ (v : Int) < (v : Int) := by omega
      go_wp2
      go_ret
      have hle : w.heap.size ≤ BW.heap.size := HB0.out.size
      exact gives_of_mic (ownsRow_base HOWN.out hle) (HB0.out.trans (HBEL.out.mono hle))
theorem spec_DiceSubPatch_c (c : CamD) (p : PatD) (U V N n lx ly : Int) (w : World) :
    Calls Try.prog 31 #[c.val, p.val, subV U V N, .int .i64 n, .int .i64 lx, .int .i64 ly] w (Gives w 12 (dsD c p U V N n lx ly).length (MicropolygonD.at (dsD c p U V N n lx ly))) := by
  cases h : dsIn U V N n
  · rw [show dsD c p U V N n lx ly = [] by simp [dsD, h]]
    exact spec_DiceSubPatch_no c p U V N n lx ly w h
  · rw [show dsD c p U V N n lx ly = gridD c p U V (dsK N n) n lx ly (dsK N n * dsK N n) by simp [dsD, h]]
    exact spec_DiceSubPatch_in c p U V N n lx ly w h
end Go.Proofs.Ytkdkdejgajcneaa
