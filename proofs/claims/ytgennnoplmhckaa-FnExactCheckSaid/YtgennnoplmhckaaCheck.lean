/- Contract of impl.Check. -/
import Derived.Test.YtgennnoplmhckaaCheckS
import Derived.Deep.RegionHeld3
import Derived.BigQuiet
namespace Go.Proofs.Ytgennnoplmhckaa
open Go Go.RowKit
theorem knownB_iff {s : List AssignmentD} {m : Nat} {x0 : Int} {x1 : ByteArray} {ow : Int} : knownB s m x0 x1 ow = false ↔ ((x0 = 2 ∧ isVar x1 = false ∧ ¬ hasB4 s m x1 ow) ∨ (x0 = 8 ∧ arityI x1 < 0)) := by
  unfold knownB
  by_cases h2 : x0 = 2
  · subst h2
    rw [if_pos rfl, hasB4_fx]
    cases hv : isVar x1
    · cases hf : fx s x1 m with
      | none => simp
      | some i => simp
    · simp
  · rw [if_neg h2]
    by_cases h8 : x0 = 8
    · subst h8
      rw [if_pos rfl]
      simp
    · rw [if_neg h8]
      simp [h2, h8]
theorem fitB_iff {x0 : Int} {x1 : ByteArray} {n : Nat} : fitB x0 x1 n = false ↔ (x0 = 8 ∧ arityI x1 ≠ (n : Int)) := by
  unfold fitB
  by_cases h8 : x0 = 8
  · subst h8
    rw [if_pos rfl]
    constructor
    · intro h; exact ⟨rfl, fun e => by rw [e] at h; simp at h⟩
    · rintro ⟨_, h⟩; rw [beq_eq_false_iff_ne]; exact fun e => h e.symm
  · rw [if_neg h8]
    simp [h8]
theorem hasB4_self {s : List AssignmentD} {m k : Nat} (hk : k < m) : hasB4 s m (nameOf s k) k ↔ (((fx s (nameOf s k) m).getD 0 : Nat) : Int) < (k : Int) := by
  rw [hasB4_fx]
  cases hf : fx s (nameOf s k) m with
  | none => exact absurd rfl (fx_none.1 hf k hk)
  | some i => simp
theorem hasB4_color {s : List AssignmentD} {m : Nat} {x : ByteArray} : hasB4 s m x (m : Int) ↔ (fx s x m).isSome = true := by
  rw [hasB4_fx]
  constructor
  · rintro ⟨i, hi, _⟩; rw [hi]; rfl
  · intro h
    obtain ⟨i, hi⟩ := Option.isSome_iff_exists.1 h
    exact ⟨i, hi, by have := (fx_some hi).1; omega⟩
set_option maxRecDepth 100000 in
set_option maxHeartbeats 8000000 in
theorem impl_Check_c (v : Value) (p : ProgD) (w : World) (hr : ProgramR w v p) (hs : ProgramSz 1048576 p) :
    Calls Try.prog 40 #[v] w fun e w' => e = .returned (chkV (checkR p)) ∧ Below w.heap.size w w' := by
  have HVA := Lib.hid (fun (W : World) (hb : Below w.heap.size w W) => impl_IsValidProgram_c v p W (hr.below hb) hs)
  have HAS := Lib.hid (fun (W : World) (hb : Below w.heap.size w W) => assigned_c v p W (hr.below hb) hs)
  have HOW := Lib.hid (fun (W : World) (hb : Below w.heap.size w W) => impl_owners_c v p W (hr.below hb) hs)
  obtain ⟨a, c, a', c', rfl, ⟨A, K, h1, h2⟩, h3⟩ := hr
  obtain ⟨hs1, hs2, hs3, hs4⟩ := hs
  have HZN := Lib.hid (fun i hi => (hs3 i hi).1)
  have HZA := Lib.hid hs4
  clear hs3 hs4 h2
  cases hval : validB p
  · have HE := Lib.hid (check1 hval)
    have HV := Lib.hid hval
    clear hval h1 h3
    go_enter Try.func40, Try.ntmps40
    go_wp2_with (go_at_call 36; refine (HVA.out _ (by repeat (first | exact Below.refl _ _ | refine Below.drew ?_ | refine Below.alloc ?_ (by first | exact Nat.le_refl _ | (simp; done) | (simp; omega) | omega) _ | refine Below.more ?_ (by first | exact Nat.le_refl _ | (simp; done) | (simp; omega) | omega) _ _ | refine Below.setCell ?_ (by first | exact Nat.le_refl _ | (simp; done) | (simp; omega) | omega) _ | assumption))).mono ?_; rw [HV.out]; rintro e wn ⟨rfl, hbn⟩; obtain ⟨X, nX, rfl⟩ := Below.ext hbn; clear hbn)
    exact bodyPost_ret (v := chkV (1, 0)) (by simp [results, Try.results40, go_sem]) rfl ⟨by rw [HE.out], (by repeat (first | exact Below.refl _ _ | refine Below.drew ?_ | refine Below.alloc ?_ (by first | exact Nat.le_refl _ | (simp; done) | (simp; omega) | omega) _ | refine Below.more ?_ (by first | exact Nat.le_refl _ | (simp; done) | (simp; omega) | omega) _ _ | refine Below.setCell ?_ (by first | exact Nat.le_refl _ | (simp; done) | (simp; omega) | omega) _ | assumption))⟩
  have HV := Lib.hid hval
  have C2 := Lib.hid (fun i hi => check2 hval (i := i) hi)
  have C3 := Lib.hid (fun g1 i hi => check3 hval g1 (i := i) hi)
  have C4 := Lib.hid (fun g1 g2 k hk => check4 hval g1 g2 (k := k) hk)
  have C0 := Lib.hid (fun g1 g2 g3 hc => check0 hval g1 g2 g3 hc)
  have C5 := Lib.hid (fun g1 g2 g3 hc => check5 hval g1 g2 g3 hc)
  have U1 := Lib.hid (fun i h1 h2 h3 => firstBad_at (P := unkn p.nodes p.asg p.nA) (n := p.nN) (i := i) h1 h2 h3)
  have U0 := Lib.hid (fun h => firstBad_none (P := unkn p.nodes p.asg p.nA) (n := p.nN) h)
  have M1 := Lib.hid (fun i h1 h2 h3 => firstBad_at (P := misfit p.nodes) (n := p.nN) (i := i) h1 h2 h3)
  have M0 := Lib.hid (fun h => firstBad_none (P := misfit p.nodes) (n := p.nN) h)
  have T1 := Lib.hid (fun i h1 h2 h3 => firstBad_at (P := twice p.asg p.nA) (n := p.nA) (i := i) h1 h2 h3)
  have T0 := Lib.hid (fun h => firstBad_none (P := twice p.asg p.nA) (n := p.nA) h)
  have UU := Lib.hid (show ∀ i, unkn p.nodes p.asg p.nA i ↔ knownB p.asg p.nA (p.nodes.getD i default).f0 (p.nodes.getD i default).f1 (ownerD p.nodes p.asg p.nA i) = false from fun _ => knownB_iff.symm)
  have UM := Lib.hid (show ∀ i, misfit p.nodes i ↔ fitB (p.nodes.getD i default).f0 (p.nodes.getD i default).f1 (p.nodes.getD i default).f3.length = false from fun _ => fitB_iff.symm)
  have UT := Lib.hid (show ∀ k, k < p.nA → (twice p.asg p.nA k ↔ (isVar (nameOf p.asg k) = true ∨ (((fx p.asg (nameOf p.asg k) p.nA).getD 0 : Nat) : Int) < (k : Int))) from fun k hk => by rw [← hasB4_self hk]; exact Iff.rfl)
  have UC := Lib.hid (show hasB4 p.asg p.nA colorS (p.nA : Int) ↔ (fx p.asg colorS p.nA).isSome = true from hasB4_color)
  have HOW2 := Lib.hid (fun W hb => HOW.out W hb hval)
  clear hval HOW
  generalize checkR p = res at *
  generalize unkn p.nodes p.asg p.nA = unk at *
  generalize misfit p.nodes = mis at *
  generalize twice p.asg p.nA = twi at *
  generalize p.nN = n at *
  generalize p.nA = m at *
  generalize p.nodes = l at *
  generalize p.asg = s at *
  have HR := Lib.hid h1
  have HS := Lib.hid h3
  clear h1 h3
  go_enter Try.func40, Try.ntmps40
  go_wp2_with (go_at_call 36; go_loud (refine (HVA.out _ (by repeat (first | exact Below.refl _ _ | refine Below.drew ?_ | refine Below.alloc ?_ (by first | exact Nat.le_refl _ | (simp; done) | (simp; omega) | omega) _ | refine Below.more ?_ (by first | exact Nat.le_refl _ | (simp; done) | (simp; omega) | omega) _ _ | refine Below.setCell ?_ (by first | exact Nat.le_refl _ | (simp; done) | (simp; omega) | omega) _ | assumption))).mono ?_; rw [HV.out]; rintro e w1 ⟨rfl, hb1⟩; have q0 : w1.cell? ⟨w.heap.size, 0, none⟩ = some (.slice a n c) := cell_below hb1 (by simp [go_sem]); have q1 : w1.cell? ⟨w.heap.size, 1, none⟩ = some (.slice a' m c') := cell_below hb1 (by simp [go_sem]); have B1 : Below w.heap.size w w1 := Below.trans (show Below w.heap.size w _ from (by repeat (first | exact Below.refl _ _ | refine Below.drew ?_ | refine Below.alloc ?_ (by first | exact Nat.le_refl _ | (simp; done) | (simp; omega) | omega) _ | refine Below.more ?_ (by first | exact Nat.le_refl _ | (simp; done) | (simp; omega) | omega) _ _ | refine Below.setCell ?_ (by first | exact Nat.le_refl _ | (simp; done) | (simp; omega) | omega) _ | assumption))) (hb1.mono (by first | (simp; done) | (simp; omega))); clear hb1))
  have y1 := World.block_lt_of_cell? _ _ q0
  go_region_held3 (fun w' => w'.cell? ⟨w.heap.size, 0, none⟩ = some (.slice a n c) ∧ w'.cell? ⟨w.heap.size, 1, none⟩ = some (.slice a' m c')) (go_keep) (first | (go_at_call 74; refine (HAS.out _ ?_).mono ?_; (first | exact B1 | exact Below.drew B1); rintro e w2 ⟨bm, rfl, hbm, hfm, b⟩; have bb2 : Below w1.heap.size w1 w2 := (by first | exact b | exact (Below.drew (Below.refl _ _)).trans (b.mono (by simp))); clear b; have B2 : Below w.heap.size w w2 := B1.trans (bb2.mono B1.size); have p0 := cell_below bb2 q0; have p1 := cell_below bb2 q1; have HFM := Lib.hid hfm; clear hfm) | (go_at_call 69; refine (HOW2.out _ ?_).mono ?_; (first | exact B2 | exact Below.drew B2); rintro e w3 ⟨U, L, rfl, hU, hu, hL, b3⟩; have B3 : Below w.heap.size w w3 := B2.trans (b3.mono B2.size); have r0 := cell_below b3 p0; have r1 := cell_below b3 p1; have HFM3 := Lib.hid (HFM.out.kept b3); have HU := Lib.hid hu; have HL := Lib.hid hL; clear hu hL b3))
  clear q0 q1 p0 p1 B1 B2 bb2 HFM
  have y1 := World.block_lt_of_cell? _ _ r0
  go_wp2
  go_loopw [24] (fun i wr => ∃ (k : Nat), k ≤ n ∧ i = .int .i64 k ∧ Hid (∀ j, j < k → ¬ unk j) ∧ Below w.heap.size w wr ∧ wr.cell? ⟨w.heap.size, 0, none⟩ = some (.slice a n c) ∧ wr.cell? ⟨w.heap.size, 1, none⟩ = some (.slice a' m c') ∧ FirstMap s wr bm m m ∧ wr.heap[U]? = some (.cells ⟨ownV L⟩ 3 (0, 0))) (fun i _ => n - (intOf i).toNat)
  case atStart => exact ⟨0, by omega, rfl, Lib.hid (fun j hj => by omega), B3, r0, r1, HFM3.out, HU.out⟩
  case round =>
    clear r0 r1 B3 HFM3 HU y1
    obtain ⟨k, hk, rfl, HALL, hbel, q0, q1, hfm, hu⟩ := hrel
    have HBEL := Lib.hid hbel
    have HFM := Lib.hid hfm
    have HU := Lib.hid hu
    have y1 : w.heap.size < wr.heap.size := World.block_lt_of_cell? _ _ q0
    have y2 : U < wr.heap.size := (Array.getElem?_eq_some_iff.1 hu).1
    clear hbel hfm hu
    by_cases hlt : k < n
    · have hk1 : (k : Int) < (n : Int) := by omega
      obtain ⟨b, o, e, hb, hc⟩ := HR.out.below HBEL.out (by omega)
      subst e
      have c0 : wr.cell? ⟨b, o + k * 4, none⟩ = some (.int .i64 (l.getD k default).f0) := hc k hlt 0 (by omega)
      have c1 : wr.cell? ⟨b, o + k * 4 + 1, none⟩ = some (.string (l.getD k default).f1) := hc k hlt 1 (by omega)
      have c2 : wr.cell? ⟨b, o + k * 4 + 2, none⟩ = some (.int .i64 (l.getD k default).f2) := hc k hlt 2 (by omega)
      have c3 : wr.cell? ⟨b, o + k * 4 + 3, none⟩ = some (.slice (A k) (l.getD k default).f3.length (K k)) := hc k hlt 3 (by omega)
      clear hc
      have k0 : wr.cell? ⟨U, k, none⟩ = some (.int .i64 (ownerD l s m k)) := by rw [cell_of_row _ _ k _ _ (0, 0) HU.out, ← HL.out.2 k hlt]; simpa using ownV_get (by rw [HL.out.1]; exact hlt)
      have HB := Lib.hid (UU.out k)
      have hsz : (l.getD k default).f1.size ≤ maxLen := by have := HZN.out k hlt; simp only [maxLen]; omega
      have HNX := Lib.hid (show ¬ unk k → ∀ j, j < k + 1 → ¬ unk j from fun h j hj => by
        by_cases e : j = k
        · subst e; exact h
        · exact HALL.out j (by omega))
      have HBD := Lib.hid (show unk k → res = (2, (k : Int)) from fun h => C2.out k (U1.out k hlt h HALL.out))
      generalize ownerD l s m k = ow at *
      generalize (l.getD k default).f3.length = n3 at *
      generalize A k = ak at *
      generalize K k = kk at *
      generalize l.getD k default = x at *
      obtain ⟨x0, x1, x2, x3⟩ := x
      dsimp only at c0 c1 c2 HB hsz
      have HKN := Lib.hid (fun (W : World) (hb : Below wr.heap.size wr W) => known_c s m m bm x0 x1 x2 ak n3 kk ow W (HFM.out.kept hb) hsz)
      generalize knownB s m x0 x1 ow = kb at *
      cases kb
      · have HF := Lib.hid (HBD.out (HB.out.2 (by first | rfl | trivial)))
        go_wp2
        (first | refine region_q2 (by kernel_rfl) (by kernel_rfl) ?_ | refine region_q (by kernel_rfl) (by kernel_rfl) ?_)
        repeat (first | go_big_quiet_skip | (go_big_quiet_want; go_simp; go_big_quiet_on))
        (refine wpQuiet_step (fun K hK => ?_); go_simp; refine ⟨_, fun zt => ext_below (exprOf_c x0 x1 x2 ak n3 kk _), hK _ ?_⟩; clear hK K)
        repeat (first | go_big_quiet_skip | (go_big_quiet_want; go_simp; go_big_quiet_on))
        (refine wpQuiet_step (fun K hK => ?_); go_simp; refine ⟨_, fun zt => ext_below (HKN.out _ (by repeat (first | exact Below.refl _ _ | refine Below.drew ?_ | refine Below.alloc ?_ (by first | exact Nat.le_refl _ | (simp; done) | (simp; omega) | omega) _ | refine Below.more ?_ (by first | exact Nat.le_refl _ | (simp; done) | (simp; omega) | omega) _ _ | refine Below.setCell ?_ (by first | exact Nat.le_refl _ | (simp; done) | (simp; omega) | omega) _ | assumption))), hK _ ?_⟩; clear hK K)
        repeat (first | go_big_quiet_skip | (go_big_quiet_want; go_simp; go_big_quiet_on))
        (refine wpQuiet_nil ?_; intro X nX)
        go_wp2
        exact bodyPost_ret (v := chkV (2, (k : Int))) (by simp [results, Try.results40, go_sem]) rfl ⟨by rw [HF.out], Below.trans HBEL.out (by repeat (first | exact Below.refl _ _ | refine Below.drew ?_ | refine Below.alloc ?_ (by first | exact Nat.le_refl _ | (simp; done) | (simp; omega) | omega) _ | refine Below.more ?_ (by first | exact Nat.le_refl _ | (simp; done) | (simp; omega) | omega) _ _ | refine Below.setCell ?_ (by first | exact Nat.le_refl _ | (simp; done) | (simp; omega) | omega) _ | assumption))⟩
      · have HF := Lib.hid (HNX.out (fun h => by have := HB.out.1 h; first | exact absurd this (by decide) | simp at this))
        go_wp2
        (first | refine region_q2 (by kernel_rfl) (by kernel_rfl) ?_ | refine region_q (by kernel_rfl) (by kernel_rfl) ?_)
        repeat (first | go_big_quiet_skip | (go_big_quiet_want; go_simp; go_big_quiet_on))
        (refine wpQuiet_step (fun K hK => ?_); go_simp; refine ⟨_, fun zt => ext_below (exprOf_c x0 x1 x2 ak n3 kk _), hK _ ?_⟩; clear hK K)
        repeat (first | go_big_quiet_skip | (go_big_quiet_want; go_simp; go_big_quiet_on))
        (refine wpQuiet_step (fun K hK => ?_); go_simp; refine ⟨_, fun zt => ext_below (HKN.out _ (by repeat (first | exact Below.refl _ _ | refine Below.drew ?_ | refine Below.alloc ?_ (by first | exact Nat.le_refl _ | (simp; done) | (simp; omega) | omega) _ | refine Below.more ?_ (by first | exact Nat.le_refl _ | (simp; done) | (simp; omega) | omega) _ _ | refine Below.setCell ?_ (by first | exact Nat.le_refl _ | (simp; done) | (simp; omega) | omega) _ | assumption))), hK _ ?_⟩; clear hK K)
        repeat (first | go_big_quiet_skip | (go_big_quiet_want; go_simp; go_big_quiet_on))
        (refine wpQuiet_nil ?_; intro X nX)
        go_wp2
        refine ⟨⟨k + 1, by omega, rfl, HF, Below.trans HBEL.out (by repeat (first | exact Below.refl _ _ | refine Below.drew ?_ | refine Below.alloc ?_ (by first | exact Nat.le_refl _ | (simp; done) | (simp; omega) | omega) _ | refine Below.more ?_ (by first | exact Nat.le_refl _ | (simp; done) | (simp; omega) | omega) _ _ | refine Below.setCell ?_ (by first | exact Nat.le_refl _ | (simp; done) | (simp; omega) | omega) _ | assumption)), cell_below (show Below wr.heap.size wr _ from (by repeat (first | exact Below.refl _ _ | refine Below.drew ?_ | refine Below.alloc ?_ (by first | exact Nat.le_refl _ | (simp; done) | (simp; omega) | omega) _ | refine Below.more ?_ (by first | exact Nat.le_refl _ | (simp; done) | (simp; omega) | omega) _ _ | refine Below.setCell ?_ (by first | exact Nat.le_refl _ | (simp; done) | (simp; omega) | omega) _ | assumption))) q0, cell_below (show Below wr.heap.size wr _ from (by repeat (first | exact Below.refl _ _ | refine Below.drew ?_ | refine Below.alloc ?_ (by first | exact Nat.le_refl _ | (simp; done) | (simp; omega) | omega) _ | refine Below.more ?_ (by first | exact Nat.le_refl _ | (simp; done) | (simp; omega) | omega) _ _ | refine Below.setCell ?_ (by first | exact Nat.le_refl _ | (simp; done) | (simp; omega) | omega) _ | assumption))) q1, HFM.out.kept (by repeat (first | exact Below.refl _ _ | refine Below.drew ?_ | refine Below.alloc ?_ (by first | exact Nat.le_refl _ | (simp; done) | (simp; omega) | omega) _ | refine Below.more ?_ (by first | exact Nat.le_refl _ | (simp; done) | (simp; omega) | omega) _ _ | refine Below.setCell ?_ (by first | exact Nat.le_refl _ | (simp; done) | (simp; omega) | omega) _ | assumption)), ((show Below wr.heap.size wr _ from (by repeat (first | exact Below.refl _ _ | refine Below.drew ?_ | refine Below.alloc ?_ (by first | exact Nat.le_refl _ | (simp; done) | (simp; omega) | omega) _ | refine Below.more ?_ (by first | exact Nat.le_refl _ | (simp; done) | (simp; omega) | omega) _ _ | refine Below.setCell ?_ (by first | exact Nat.le_refl _ | (simp; done) | (simp; omega) | omega) _ | assumption))).block U y2).trans HU.out⟩, by simp only [intOf]; omega⟩
    · have hk1 : ¬ (k : Int) < (n : Int) := by omega
      have HU0 := Lib.hid (U0.out (fun j hj => HALL.out j (by omega)))
      have D3 := Lib.hid (fun i hi => C3.out HU0.out i hi)
      have D4 := Lib.hid (fun g2 k hk => C4.out HU0.out g2 k hk)
      have D0 := Lib.hid (fun g2 g3 hc => C0.out HU0.out g2 g3 hc)
      have D5 := Lib.hid (fun g2 g3 hc => C5.out HU0.out g2 g3 hc)
      clear HALL HU y2
      go_wp2
      go_loopw [43] (fun i wr => ∃ (k : Nat), k ≤ n ∧ i = .int .i64 k ∧ Hid (∀ j, j < k → ¬ mis j) ∧ Below w.heap.size w wr ∧ wr.cell? ⟨w.heap.size, 0, none⟩ = some (.slice a n c) ∧ wr.cell? ⟨w.heap.size, 1, none⟩ = some (.slice a' m c') ∧ FirstMap s wr bm m m) (fun i _ => n - (intOf i).toNat)
      case atStart => exact ⟨0, by omega, rfl, Lib.hid (fun j hj => by omega), HBEL.out, q0, q1, HFM.out⟩
      case round =>
        clear q0 q1 HBEL HFM y1
        obtain ⟨k, hk, rfl, HALL, hbel, q0, q1, hfm⟩ := hrel
        have HBEL := Lib.hid hbel
        have HFM := Lib.hid hfm
        have y1 : w.heap.size < wr.heap.size := World.block_lt_of_cell? _ _ q0
        clear hbel hfm
        by_cases hlt : k < n
        · have hk1 : (k : Int) < (n : Int) := by omega
          obtain ⟨b, o, e, hb, hc⟩ := HR.out.below HBEL.out (by omega)
          subst e
          have c0 : wr.cell? ⟨b, o + k * 4, none⟩ = some (.int .i64 (l.getD k default).f0) := hc k hlt 0 (by omega)
          have c1 : wr.cell? ⟨b, o + k * 4 + 1, none⟩ = some (.string (l.getD k default).f1) := hc k hlt 1 (by omega)
          have c2 : wr.cell? ⟨b, o + k * 4 + 2, none⟩ = some (.int .i64 (l.getD k default).f2) := hc k hlt 2 (by omega)
          have c3 : wr.cell? ⟨b, o + k * 4 + 3, none⟩ = some (.slice (A k) (l.getD k default).f3.length (K k)) := hc k hlt 3 (by omega)
          clear hc
          have HB := Lib.hid (UM.out k)
          have HNX := Lib.hid (show ¬ mis k → ∀ j, j < k + 1 → ¬ mis j from fun h j hj => by
            by_cases e : j = k
            · subst e; exact h
            · exact HALL.out j (by omega))
          have HBD := Lib.hid (show mis k → res = (3, (k : Int)) from fun h => D3.out k (M1.out k hlt h HALL.out))
          generalize (l.getD k default).f3.length = n3 at *
          generalize A k = ak at *
          generalize K k = kk at *
          generalize l.getD k default = x at *
          obtain ⟨x0, x1, x2, x3⟩ := x
          dsimp only at c0 c1 c2 HB
          have HFT := Lib.hid (fun (W : World) => fitting_c x0 x1 x2 ak n3 kk W)
          generalize fitB x0 x1 n3 = fb at *
          cases fb
          · have HF := Lib.hid (HBD.out (HB.out.2 (by first | rfl | trivial)))
            go_wp2_with (first | (go_at_call 76; refine (exprOf_c x0 x1 x2 ak n3 kk _).mono ?_; rintro e wn ⟨rfl, hbn⟩; obtain ⟨X, nX, rfl⟩ := Below.ext hbn; clear hbn) | (go_at_call 77; refine (HFT.out _).mono ?_; rintro e wn ⟨rfl, hbn⟩; obtain ⟨X, nX, rfl⟩ := Below.ext hbn; clear hbn))
            exact bodyPost_ret (v := chkV (3, (k : Int))) (by simp [results, Try.results40, go_sem]) rfl ⟨by rw [HF.out], Below.trans HBEL.out (by repeat (first | exact Below.refl _ _ | refine Below.drew ?_ | refine Below.alloc ?_ (by first | exact Nat.le_refl _ | (simp; done) | (simp; omega) | omega) _ | refine Below.more ?_ (by first | exact Nat.le_refl _ | (simp; done) | (simp; omega) | omega) _ _ | refine Below.setCell ?_ (by first | exact Nat.le_refl _ | (simp; done) | (simp; omega) | omega) _ | assumption))⟩
          · have HF := Lib.hid (HNX.out (fun h => by have := HB.out.1 h; first | exact absurd this (by decide) | simp at this))
            go_wp2_with (first | (go_at_call 76; refine (exprOf_c x0 x1 x2 ak n3 kk _).mono ?_; rintro e wn ⟨rfl, hbn⟩; obtain ⟨X, nX, rfl⟩ := Below.ext hbn; clear hbn) | (go_at_call 77; refine (HFT.out _).mono ?_; rintro e wn ⟨rfl, hbn⟩; obtain ⟨X, nX, rfl⟩ := Below.ext hbn; clear hbn))
            refine ⟨⟨k + 1, by omega, rfl, HF, Below.trans HBEL.out (by repeat (first | exact Below.refl _ _ | refine Below.drew ?_ | refine Below.alloc ?_ (by first | exact Nat.le_refl _ | (simp; done) | (simp; omega) | omega) _ | refine Below.more ?_ (by first | exact Nat.le_refl _ | (simp; done) | (simp; omega) | omega) _ _ | refine Below.setCell ?_ (by first | exact Nat.le_refl _ | (simp; done) | (simp; omega) | omega) _ | assumption)), cell_below (show Below wr.heap.size wr _ from (by repeat (first | exact Below.refl _ _ | refine Below.drew ?_ | refine Below.alloc ?_ (by first | exact Nat.le_refl _ | (simp; done) | (simp; omega) | omega) _ | refine Below.more ?_ (by first | exact Nat.le_refl _ | (simp; done) | (simp; omega) | omega) _ _ | refine Below.setCell ?_ (by first | exact Nat.le_refl _ | (simp; done) | (simp; omega) | omega) _ | assumption))) q0, cell_below (show Below wr.heap.size wr _ from (by repeat (first | exact Below.refl _ _ | refine Below.drew ?_ | refine Below.alloc ?_ (by first | exact Nat.le_refl _ | (simp; done) | (simp; omega) | omega) _ | refine Below.more ?_ (by first | exact Nat.le_refl _ | (simp; done) | (simp; omega) | omega) _ _ | refine Below.setCell ?_ (by first | exact Nat.le_refl _ | (simp; done) | (simp; omega) | omega) _ | assumption))) q1, HFM.out.kept (by repeat (first | exact Below.refl _ _ | refine Below.drew ?_ | refine Below.alloc ?_ (by first | exact Nat.le_refl _ | (simp; done) | (simp; omega) | omega) _ | refine Below.more ?_ (by first | exact Nat.le_refl _ | (simp; done) | (simp; omega) | omega) _ _ | refine Below.setCell ?_ (by first | exact Nat.le_refl _ | (simp; done) | (simp; omega) | omega) _ | assumption))⟩, by simp only [intOf]; omega⟩
        · have hk1 : ¬ (k : Int) < (n : Int) := by omega
          have HM0 := Lib.hid (M0.out (fun j hj => HALL.out j (by omega)))
          have E4 := Lib.hid (fun k hk => D4.out HM0.out k hk)
          have E0 := Lib.hid (fun g3 hc => D0.out HM0.out g3 hc)
          have E5 := Lib.hid (fun g3 hc => D5.out HM0.out g3 hc)
          clear HALL
          go_wp2
          go_loopw [57] (fun i wr => ∃ (k : Nat), k ≤ m ∧ i = .int .i64 k ∧ Hid (∀ j, j < k → ¬ twi j) ∧ Below w.heap.size w wr ∧ FirstMap s wr bm m m) (fun i _ => m - (intOf i).toNat)
          case atStart => exact ⟨0, by omega, rfl, Lib.hid (fun j hj => by omega), HBEL.out, HFM.out⟩
          case round =>
            clear q0 q1 HBEL HFM y1
            obtain ⟨k, hk, rfl, HALL, hbel, hfm⟩ := hrel
            have HBEL := Lib.hid hbel
            have HFM := Lib.hid hfm
            have hbs := hbel.size
            clear hbel hfm
            by_cases hlt : k < m
            · have hk1 : (k : Int) < (m : Int) := by omega
              obtain ⟨b, o, e, hb, hc⟩ := HS.out.below HBEL.out (by omega)
              subst e
              have c0 : wr.cell? ⟨b, o + k * 2, none⟩ = some (.string (nameOf s k)) := hc k hlt 0 (by omega)
              have c1 : wr.cell? ⟨b, o + k * 2 + 1, none⟩ = some (.int .i64 (s.getD k default).f1) := hc k hlt 1 (by omega)
              clear hc
              generalize (s.getD k default).f1 = r1 at *
              have HB := Lib.hid (UT.out k hlt)
              have hsz : (nameOf s k).size ≤ maxLen := by have h1 : (nameOf s k).size ≤ 1048576 := HZA.out k hlt; simp only [maxLen]; omega
              have HNX := Lib.hid (show ¬ twi k → ∀ j, j < k + 1 → ¬ twi j from fun h j hj => by
                by_cases e : j = k
                · subst e; exact h
                · exact HALL.out j (by omega))
              have HBD := Lib.hid (show twi k → res = (4, (k : Int)) from fun h => E4.out k (T1.out k hlt h HALL.out))
              generalize nameOf s k = nm at *
              have hlk := ((HFM.out.kept (show Below wr.heap.size wr (wr.alloc (.cells #[.string nm, .int .i64 r1] 73)) from (by repeat (first | exact Below.refl _ _ | refine Below.drew ?_ | refine Below.alloc ?_ (by first | exact Nat.le_refl _ | (simp; done) | (simp; omega) | omega) _ | refine Below.more ?_ (by first | exact Nat.le_refl _ | (simp; done) | (simp; omega) | omega) _ _ | refine Below.setCell ?_ (by first | exact Nat.le_refl _ | (simp; done) | (simp; omega) | omega) _ | assumption)))).look hsz).2
              generalize (((fx s nm m).getD 0 : Nat) : Int) = g at *
              cases hv : isVar nm
              · by_cases hg : g < (k : Int)
                · have HF := Lib.hid (HBD.out (HB.out.2 (.inr hg)))
                  have HV2 := Lib.hid hv
                  clear hv
                  go_wp2_with (go_at_call 78; refine (impl_IsVariable _ _).mono ?_; rw [HV2.out]; rintro e w' ⟨rfl, rfl⟩)
                  exact bodyPost_ret (v := chkV (4, (k : Int))) (by simp [results, Try.results40, go_sem]) rfl ⟨by rw [HF.out], Below.trans HBEL.out (by repeat (first | exact Below.refl _ _ | refine Below.drew ?_ | refine Below.alloc ?_ (by first | exact Nat.le_refl _ | (simp; done) | (simp; omega) | omega) _ | refine Below.more ?_ (by first | exact Nat.le_refl _ | (simp; done) | (simp; omega) | omega) _ _ | refine Below.setCell ?_ (by first | exact Nat.le_refl _ | (simp; done) | (simp; omega) | omega) _ | assumption))⟩
                · have HF := Lib.hid (HNX.out (fun h => by
                    rcases HB.out.1 h with h' | h'
                    · rw [hv] at h'; cases h'
                    · exact hg h'))
                  have HV2 := Lib.hid hv
                  clear hv
                  go_wp2_with (go_at_call 78; refine (impl_IsVariable _ _).mono ?_; rw [HV2.out]; rintro e w' ⟨rfl, rfl⟩)
                  refine ⟨⟨k + 1, by omega, rfl, HF, Below.trans HBEL.out (by repeat (first | exact Below.refl _ _ | refine Below.drew ?_ | refine Below.alloc ?_ (by first | exact Nat.le_refl _ | (simp; done) | (simp; omega) | omega) _ | refine Below.more ?_ (by first | exact Nat.le_refl _ | (simp; done) | (simp; omega) | omega) _ _ | refine Below.setCell ?_ (by first | exact Nat.le_refl _ | (simp; done) | (simp; omega) | omega) _ | assumption)), HFM.out.kept (by repeat (first | exact Below.refl _ _ | refine Below.drew ?_ | refine Below.alloc ?_ (by first | exact Nat.le_refl _ | (simp; done) | (simp; omega) | omega) _ | refine Below.more ?_ (by first | exact Nat.le_refl _ | (simp; done) | (simp; omega) | omega) _ _ | refine Below.setCell ?_ (by first | exact Nat.le_refl _ | (simp; done) | (simp; omega) | omega) _ | assumption))⟩, by simp only [intOf]; omega⟩
              · have HF := Lib.hid (HBD.out (HB.out.2 (.inl hv)))
                have HV2 := Lib.hid hv
                clear hv
                go_wp2_with (go_at_call 78; refine (impl_IsVariable _ _).mono ?_; rw [HV2.out]; rintro e w' ⟨rfl, rfl⟩)
                exact bodyPost_ret (v := chkV (4, (k : Int))) (by simp [results, Try.results40, go_sem]) rfl ⟨by rw [HF.out], Below.trans HBEL.out (by repeat (first | exact Below.refl _ _ | refine Below.drew ?_ | refine Below.alloc ?_ (by first | exact Nat.le_refl _ | (simp; done) | (simp; omega) | omega) _ | refine Below.more ?_ (by first | exact Nat.le_refl _ | (simp; done) | (simp; omega) | omega) _ _ | refine Below.setCell ?_ (by first | exact Nat.le_refl _ | (simp; done) | (simp; omega) | omega) _ | assumption))⟩
            · have hk1 : ¬ (k : Int) < (m : Int) := by omega
              obtain rfl : k = m := by omega
              have HT0 := Lib.hid (T0.out HALL.out)
              cases hsome : (fx s colorS k).isSome
              · have HF := Lib.hid (E5.out HT0.out (fun h => by have := UC.out.1 h; rw [hsome] at this; cases this))
                have HSO := Lib.hid hsome
                clear hsome
                go_wp2_with (at_lookup; go_loud (refine wpList_look_name _ rfl _ _ rfl s bm k k rfl (HFM.out.kept (by repeat (first | exact Below.refl _ _ | refine Below.drew ?_ | refine Below.alloc ?_ (by first | exact Nat.le_refl _ | (simp; done) | (simp; omega) | omega) _ | refine Below.more ?_ (by first | exact Nat.le_refl _ | (simp; done) | (simp; omega) | omega) _ _ | refine Below.setCell ?_ (by first | exact Nat.le_refl _ | (simp; done) | (simp; omega) | omega) _ | assumption))) colorS (by decide) rfl ?_; rw [HSO.out]))
                exact bodyPost_ret (v := chkV (5, 0)) (by simp [results, Try.results40, go_sem]) rfl ⟨by rw [HF.out], Below.trans HBEL.out (by repeat (first | exact Below.refl _ _ | refine Below.drew ?_ | refine Below.alloc ?_ (by first | exact Nat.le_refl _ | (simp; done) | (simp; omega) | omega) _ | refine Below.more ?_ (by first | exact Nat.le_refl _ | (simp; done) | (simp; omega) | omega) _ _ | refine Below.setCell ?_ (by first | exact Nat.le_refl _ | (simp; done) | (simp; omega) | omega) _ | assumption))⟩
              · have HF := Lib.hid (E0.out HT0.out (UC.out.2 hsome))
                have HSO := Lib.hid hsome
                clear hsome
                go_wp2_with (at_lookup; go_loud (refine wpList_look_name _ rfl _ _ rfl s bm k k rfl (HFM.out.kept (by repeat (first | exact Below.refl _ _ | refine Below.drew ?_ | refine Below.alloc ?_ (by first | exact Nat.le_refl _ | (simp; done) | (simp; omega) | omega) _ | refine Below.more ?_ (by first | exact Nat.le_refl _ | (simp; done) | (simp; omega) | omega) _ _ | refine Below.setCell ?_ (by first | exact Nat.le_refl _ | (simp; done) | (simp; omega) | omega) _ | assumption))) colorS (by decide) rfl ?_; rw [HSO.out]))
                exact bodyPost_ret (v := chkV (0, 0)) (by simp [results, Try.results40, go_sem]) rfl ⟨by rw [HF.out], Below.trans HBEL.out (by repeat (first | exact Below.refl _ _ | refine Below.drew ?_ | refine Below.alloc ?_ (by first | exact Nat.le_refl _ | (simp; done) | (simp; omega) | omega) _ | refine Below.more ?_ (by first | exact Nat.le_refl _ | (simp; done) | (simp; omega) | omega) _ _ | refine Below.setCell ?_ (by first | exact Nat.le_refl _ | (simp; done) | (simp; omega) | omega) _ | assumption))⟩
end Go.Proofs.Ytgennnoplmhckaa
