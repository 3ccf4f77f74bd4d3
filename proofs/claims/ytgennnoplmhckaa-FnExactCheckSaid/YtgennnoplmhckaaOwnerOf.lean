/- Contracts of OwnerOf. -/
import Derived.Test.YtgennnoplmhckaaOwnersI
import Derived.Laws.EntriesVeiled
import Derived.Test.YtgennnoplmhckaaValidPgm2
namespace Go.Proofs.Ytgennnoplmhckaa
open Go Go.RowKit
theorem counts_ownV (n : Nat) : counts n [] = ownV (List.replicate n 0) := by rw [counts_nil, ownV, List.map_replicate]
/-- A slice of one's own with the owners of all nodes comes back. -/
def GivesOwn (w : World) (l : List NodeD) (s : List AssignmentD) (n m : Nat) (e : Ending) (w' : World) : Prop :=
  ∃ U L, e = .returned (.slice (some ⟨U, 0, none⟩) n n) ∧ w.heap.size ≤ U ∧ w'.heap[U]? = some (.cells ⟨ownV L⟩ 3 (0, 0)) ∧ Owned l s n m L ∧ Below w.heap.size w w'
set_option maxRecDepth 100000 in
set_option maxHeartbeats 2000000 in
theorem impl_owners_c (v : Value) (p : ProgD) (w : World) (hr : ProgramR w v p) (hs : ProgramSz 1048576 p) (hval : validB p = true) :
    Calls Try.prog 69 #[v] w (GivesOwn w p.nodes p.asg p.nN p.nA) := by
  have T := tree_of hval
  obtain ⟨a, c, a', c', rfl, ⟨A, K, h1, h2⟩, h3⟩ := hr
  obtain ⟨hs1, hs2, hs3, hs4⟩ := hs
  generalize p.nN = n at *
  generalize p.nA = m at *
  generalize p.nodes = l at *
  generalize p.asg = s at *
  have HT := Lib.hid T
  have HS := Lib.hid h3
  have HVI := Lib.hid (fun U bo bm bv x hx o W L hv hL => visit_c (s := s) T w U bo bm bv a c A K h1 h2 (fun i hi => (hs3 i hi).2) hs1 x hx o W L hv hL)
  clear h1 h2 h3 hs3 hs4 T hval
  have hmk := fun w => make_counts n hs1 w
  go_enter Try.func69, Try.ntmps69
  go_wp2
  go_loopw [15] (fun i wr => ∃ (k : Nat) (L : List Int), k ≤ m ∧ i = .int .i64 k ∧ VisW w (w.heap.size + 1) (w.heap.size + 2) w.heap.size (w.heap.size + 3) n a c wr L ∧ L.length = n ∧ Hid (∀ k', k' < k → ∀ q, Owns l s k' q → q < n → L.getD q 0 = k')) (fun i _ => m - (intOf i).toNat)
  case atStart =>
    refine ⟨0, List.replicate n 0, by omega, rfl, ⟨by simp [go_sem], by simp [go_sem], by simp [go_sem], ?_, (by repeat (first | exact Below.refl _ _ | refine Below.drew ?_ | refine Below.alloc ?_ (by first | exact Nat.le_refl _ | (simp; done) | (simp; omega) | omega) _ | refine Below.more ?_ (by first | exact Nat.le_refl _ | (simp; done) | (simp; omega) | omega) _ _ | refine Below.setCell ?_ (by first | exact Nat.le_refl _ | (simp; done) | (simp; omega) | omega) _ | assumption)), by omega, by omega, by omega, by omega⟩, by simp, Lib.hid (fun k' hk' => by omega)⟩
    rw [← counts_ownV]
    first
      | exact (heap_set_other _ _ _ (by omega)).trans ((heap_alloc_old _ _ (by simp)).trans ((heap_alloc_old _ _ (by simp)).trans (heap_at_new (by simp))))
      | exact (heap_alloc_old _ _ (by simp)).trans ((heap_alloc_old _ _ (by simp)).trans (heap_at_new (by simp)))
  case round =>
    obtain ⟨k, L, hk, rfl, hv, hL, HP⟩ := hrel
    have HV := Lib.hid hv
    have HL := Lib.hid hL
    have v0 := hv.v
    have y1 : w.heap.size + 3 < wr.heap.size := World.block_lt_of_cell? _ _ v0
    clear hv hL
    by_cases hlt : k < m
    · have hk1 : (k : Int) < (m : Int) := by omega
      obtain ⟨b, o, e, hb, hc⟩ := HS.out.below HV.out.b (by omega)
      subst e
      have c0 : wr.cell? ⟨b, o + k * 2, none⟩ = some (.string (s.getD k default).f0) := hc k hlt 0 (by omega)
      have c1 : wr.cell? ⟨b, o + k * 2 + 1, none⟩ = some (.int .i64 (s.getD k default).f1) := hc k hlt 1 (by omega)
      clear hc
      obtain ⟨hr0, hr1⟩ := HT.out.root k hlt
      have HOW := Lib.hid (show ∀ q, Owns l s k q ↔ Sub l (rootOf s k).toNat q from fun q => Iff.rfl)
      have hroot : rootOf s k = (s.getD k default).f1 := rfl
      rw [hroot] at hr0 hr1 HOW
      clear hroot
      generalize s.getD k default = x at *
      obtain ⟨x0, x1⟩ := x
      dsimp only at c0 c1 hr0 hr1 HOW
      obtain ⟨d, rfl⟩ := Int.eq_ofNat_of_zero_le hr0
      rw [Int.toNat_natCast] at HOW
      have HI := Lib.hid (fun (W : World) (hb : Below wr.heap.size wr W) => HVI.out (w.heap.size + 1) (w.heap.size + 2) w.heap.size (w.heap.size + 3) d (by omega) (k : Int) W L (HV.out.below hb) HL.out)
      go_wp2_with (go_at_call 88; go_loud (refine (HI.out _ (by repeat (first | exact Below.refl _ _ | refine Below.drew ?_ | refine Below.alloc ?_ (by first | exact Nat.le_refl _ | (simp; done) | (simp; omega) | omega) _ | refine Below.more ?_ (by first | exact Nat.le_refl _ | (simp; done) | (simp; omega) | omega) _ _ | refine Below.setCell ?_ (by first | exact Nat.le_refl _ | (simp; done) | (simp; omega) | omega) _ | assumption))).mono ?_; rintro e W2 ⟨⟨vv, rfl⟩, L2, hv2, hl2, hp2, hc2⟩; have HV2 := Lib.hid hv2; have HP2 := Lib.hid hp2; clear hv2 hp2 hc2))
      refine ⟨⟨k + 1, L2, by omega, rfl, HV2.out, hl2, Lib.hid (fun k' hk' q hq hqn => ?_)⟩, by simp only [intOf]; omega⟩
      obtain ⟨p1, p2⟩ := HP2.out q hqn
      by_cases e : k' = k
      · subst e
        exact p1 ((HOW.out q).1 hq)
      · rw [p2 (fun h => e (owns_one HT.out (by omega) hlt hq ((HOW.out q).2 h)))]
        exact HP.out k' (by omega) q hq hqn
    · have hk1 : ¬ (k : Int) < (m : Int) := by omega
      obtain rfl : k = m := by omega
      have o0 := HV.out.o
      have y2 : w.heap.size + 2 < wr.heap.size := by omega
      go_wp2
      go_ret
      exact ⟨_, L, rfl, by omega, HV.out.u, owned_of HT.out HL.out (fun k q hk ho => HP.out k hk q ho (Sub.le HT.out (by have := HT.out.root k hk; omega) ho)), HV.out.b⟩
def ownOk (p : ProgD) (x : Int) : Prop := validB p = true ∧ 0 ≤ x ∧ x ≤ (p.nN : Int) - 1
open Classical in
noncomputable def ownR (p : ProgD) (x : Int) : Int := if ownOk p x then ownerD p.nodes p.asg p.nA x.toNat else -1
theorem ownR_yes {p : ProgD} {x : Int} (h : ownOk p x) : ownR p x = ownerD p.nodes p.asg p.nA x.toNat := by rw [ownR, if_pos h]
theorem ownR_no {p : ProgD} {x : Int} (h : ¬ ownOk p x) : ownR p x = -1 := by rw [ownR, if_neg h]
section
variable {l : List NodeD} {s : List AssignmentD} {n m : Nat}
def Done (l : List NodeD) (s : List AssignmentD) (n t k q : Nat) : Prop := (q : Int) = rootOf s k ∨ ∃ i, t ≤ i ∧ i < n ∧ (q : Int) ∈ argsOf l i
def Done2 (l : List NodeD) (s : List AssignmentD) (n t j k q : Nat) : Prop := Done l s n (t + 1) k q ∨ ∃ u, u < j ∧ (argsOf l t).getD u 0 = (q : Int)
def Right (l : List NodeD) (s : List AssignmentD) (n m : Nat) (P : Nat → Nat → Prop) (L : List Int) : Prop := ∀ k q, k < m → q < n → Owns l s k q → P k q → L.getD q 0 = k
theorem right_step (T : Tree l s n m) {L : List Int} {t j c : Nat} (ht : t < n) (hL : L.length = n) (hj : j < (argsOf l t).length) (hc : (argsOf l t).getD j 0 = (c : Int)) (h : Right l s n m (Done2 l s n t j) L) : Right l s n m (Done2 l s n t (j + 1)) (L.set c (L.getD t 0)) := by
  have hmem : (c : Int) ∈ argsOf l t := by
    rw [← hc, List.getD_eq_getElem?_getD, List.getElem?_eq_getElem hj]
    exact List.getElem_mem _
  have hct := T.low t ht _ hmem
  intro k q hk hq ho hd
  rw [getD_set (by omega)]
  by_cases e : q = c
  · subst e
    rw [if_pos rfl]
    obtain ⟨kt, hkt, hot⟩ := owns_some T _ t (Nat.le_refl _) ht
    have h1 : k = kt := owns_one T hk hkt ho (Sub.snoc hot hmem)
    subst h1
    refine h k t hk ht hot (.inl ?_)
    rcases T.every t ht with ⟨i, hi, ha⟩ | ⟨k2, hk2, hr⟩
    · exact .inr ⟨i, by have := T.low i hi _ ha; omega, hi, ha⟩
    · refine .inl ?_
      have h3 : Owns l s k2 t := by unfold Owns; rw [hr, Int.toNat_natCast]; exact .refl
      rw [owns_one T hk hk2 hot h3, hr]
  · rw [if_neg e]
    refine h k q hk hq ho ?_
    rcases hd with hd | ⟨u, hu, hx⟩
    · exact .inl hd
    · refine .inr ⟨u, ?_, hx⟩
      rcases Nat.lt_or_ge u j with h4 | h4
      · exact h4
      · obtain rfl : u = j := by omega
        exact absurd (by omega) e
theorem right_end {L : List Int} {t : Nat} (h : Right l s n m (Done2 l s n t (argsOf l t).length) L) : Right l s n m (Done l s n t) L := by
  intro k q hk hq ho hd
  refine h k q hk hq ho ?_
  rcases hd with hd | ⟨i, hi, hin, hx⟩
  · exact .inl (.inl hd)
  · by_cases e : i = t
    · subst e
      obtain ⟨u, hu, he⟩ := List.getElem_of_mem hx
      exact .inr ⟨u, hu, by rw [List.getD_eq_getElem?_getD, List.getElem?_eq_getElem hu, he]; rfl⟩
    · exact .inl (.inr ⟨i, by omega, hin, hx⟩)
theorem right_two {L : List Int} {t : Nat} (h : Right l s n m (Done l s n (t + 1)) L) : Right l s n m (Done2 l s n t 0) L := by
  intro k q hk hq ho hd
  rcases hd with hd | ⟨u, hu, _⟩
  · exact h k q hk hq ho hd
  · omega
theorem right_start {L : List Int} (h : ∀ k, k < m → L.getD (rootOf s k).toNat 0 = k) : Right l s n m (Done l s n n) L := by
  intro k q hk hq ho hd
  rcases hd with hd | ⟨i, hi, hin, _⟩
  · have := h k hk
    rw [← hd, Int.toNat_natCast] at this
    exact this
  · omega
theorem right_owned (T : Tree l s n m) {L : List Int} (hL : L.length = n) (h : Right l s n m (Done l s n 0) L) : Owned l s n m L := by
  refine owned_of T hL fun k q hk ho => ?_
  have hr := T.root k hk
  have hq := Sub.le T (by omega) ho
  refine h k q hk hq ho ?_
  unfold Owns at ho
  generalize hx : (rootOf s k).toNat = x at ho
  cases ho with
  | refl => exact .inl (by omega)
  | @snoc i a h1 h2 => exact .inr ⟨i, by omega, Sub.le T (by omega) h1, h2⟩
end
set_option maxRecDepth 100000 in
set_option maxHeartbeats 4000000 in
theorem l14Owners_c (v : Value) (p : ProgD) (w : World) (hr : ProgramR w v p) (hs : ProgramSz 1048576 p) (hval : validB p = true) :
    Calls Try.prog 68 #[v] w (GivesOwn w p.nodes p.asg p.nN p.nA) := by
  have T := tree_of hval
  obtain ⟨a, c, a', c', rfl, ⟨A, K, h1, h2⟩, h3⟩ := hr
  obtain ⟨hs1, hs2, hs3, hs4⟩ := hs
  generalize p.nN = n at *
  generalize p.nA = m at *
  generalize p.nodes = l at *
  generalize p.asg = s at *
  have HT := Lib.hid T
  have HS := Lib.hid h3
  have HR := Lib.hid h1
  have HQ := Lib.hid (show ∀ i, i < n → Sl w (A i) 1 (argsOf l i).length (intAt (argsOf l i)) from h2)
  have HZ := Lib.hid (show ∀ i, i < n → (argsOf l i).length ≤ 1048576 from fun i hi => (hs3 i hi).2)
  clear h1 h2 h3 hs3 hs4 T hval
  have hmk := fun w => make_counts n hs1 w
  have hwn : IntKind.i64.wrap ((n : Int) - 1) = (n : Int) - 1 := IntWalk.i64_in _ (by omega)
  go_enter Try.func68, Try.ntmps68
  go_wp2
  go_loopw [16] (fun i wr => ∃ (k : Nat) (L : List Int), k ≤ m ∧ i = .int .i64 k ∧ Below w.heap.size w wr ∧ wr.heap[w.heap.size + 1]? = some (.cells ⟨ownV L⟩ 3 (0, 0)) ∧ L.length = n ∧ Hid (∀ k', k' < k → L.getD (rootOf s k').toNat 0 = k') ∧ wr.cell? ⟨w.heap.size, 0, none⟩ = some (.slice a n c)) (fun i _ => m - (intOf i).toNat)
  case atStart => exact ⟨0, List.replicate n 0, by omega, rfl, (by repeat (first | exact Below.refl _ _ | refine Below.drew ?_ | refine Below.alloc ?_ (by first | exact Nat.le_refl _ | (simp; done) | (simp; omega) | omega) _ | refine Below.more ?_ (by first | exact Nat.le_refl _ | (simp; done) | (simp; omega) | omega) _ _ | refine Below.setCell ?_ (by first | exact Nat.le_refl _ | (simp; done) | (simp; omega) | omega) _ | assumption)), by rw [← counts_ownV]; exact heap_at_new (by simp), by simp, Lib.hid (fun k' hk' => by omega), by simp [go_sem]⟩
  case round =>
    obtain ⟨k, L, hk, rfl, hbel, hu, hL, HP, q0⟩ := hrel
    have HBEL := Lib.hid hbel
    have HU := Lib.hid hu
    have HL := Lib.hid hL
    have y1 : w.heap.size + 1 < wr.heap.size := (Array.getElem?_eq_some_iff.1 hu).1
    clear hbel hu hL
    by_cases hlt : k < m
    · have hk1 : (k : Int) < (m : Int) := by omega
      obtain ⟨b, o, e, hb, hc⟩ := HS.out.below HBEL.out (by omega)
      subst e
      have c0 : wr.cell? ⟨b, o + k * 2, none⟩ = some (.string (s.getD k default).f0) := hc k hlt 0 (by omega)
      have c1 : wr.cell? ⟨b, o + k * 2 + 1, none⟩ = some (.int .i64 (s.getD k default).f1) := hc k hlt 1 (by omega)
      clear hc
      obtain ⟨hr0, hr1⟩ := HT.out.root k hlt
      have HINJ := Lib.hid (fun k' hk' (h : (rootOf s k').toNat = (rootOf s k).toNat) => HT.out.inj k' k hk' hlt (by have := HT.out.root k' hk'; omega))
      have hroot : rootOf s k = (s.getD k default).f1 := rfl
      rw [hroot] at hr0 hr1 HINJ
      have HRT := Lib.hid hroot
      clear hroot
      generalize s.getD k default = x at *
      obtain ⟨x0, x1⟩ := x
      dsimp only at c0 c1 hr0 hr1 HINJ HRT
      obtain ⟨d, rfl⟩ := Int.eq_ofNat_of_zero_le hr0
      rw [Int.toNat_natCast] at HINJ
      have hd : d < n := by omega
      have k0 : wr.cell? ⟨w.heap.size + 1, d, none⟩ = some (.int .i64 (L.getD d 0)) := by rw [cell_of_row _ _ d _ _ (0, 0) HU.out]; simpa using ownV_get (by rw [HL.out]; exact hd)
      have k1 : wr.frozen? ⟨w.heap.size + 1, d, none⟩ = false := frozen_of_row _ _ d _ _ HU.out
      go_wp2
      refine ⟨⟨k + 1, L.set d (k : Int), by omega, rfl, Below.alloc (below_set_here HBEL.out HU.out (Nat.le_succ _) _ _) (by rw [size_set]; omega) _, ?_, by rw [List.length_set]; exact HL.out, Lib.hid (fun k' hk' => ?_), ?_⟩, by simp only [intOf]; omega⟩
      · rw [← ownV_set]
        exact (heap_alloc_old _ _ (by rw [size_set]; omega)).trans (heap_set_here HU.out _ _)
      · rw [getD_set (by rw [HL.out]; exact hd)]
        by_cases e : k' = k
        · subst e
          rw [HRT.out, Int.toNat_natCast, if_pos rfl]
        · rw [if_neg (fun h => e (HINJ.out k' (by omega) h))]
          exact HP.out k' (by omega)
      · exact cell_below (show Below (wr.setCell ⟨w.heap.size + 1, d, none⟩ (.int .i64 (k : Int))).heap.size _ _ from (by repeat (first | exact Below.refl _ _ | refine Below.drew ?_ | refine Below.alloc ?_ (by first | exact Nat.le_refl _ | (simp; done) | (simp; omega) | omega) _ | refine Below.more ?_ (by first | exact Nat.le_refl _ | (simp; done) | (simp; omega) | omega) _ _ | refine Below.setCell ?_ (by first | exact Nat.le_refl _ | (simp; done) | (simp; omega) | omega) _ | assumption))) ((World.cell?_of_block (heap_set_other d _ w.heap.size (Nat.ne_of_lt (Nat.lt_succ_self _)))).trans q0)
    · have hk1 : ¬ (k : Int) < (m : Int) := by omega
      obtain rfl : k = m := by omega
      have HR0 := Lib.hid (right_start (l := l) (n := n) (fun k' hk' => HP.out k' hk'))
      have y0 : w.heap.size < wr.heap.size := by omega
      clear HP
      go_wp2
      go_loopw [6] (fun i wr => ∃ (t : Nat) (L : List Int), t ≤ n ∧ i = .int .i64 ((t : Int) - 1) ∧ Below w.heap.size w wr ∧ wr.heap[w.heap.size + 1]? = some (.cells ⟨ownV L⟩ 3 (0, 0)) ∧ L.length = n ∧ Hid (Right l s n k (Done l s n t) L) ∧ wr.cell? ⟨w.heap.size, 0, none⟩ = some (.slice a n c)) (fun i _ => (intOf i + 1).toNat)
      case atStart => exact ⟨n, L, by omega, rfl, HBEL.out, HU.out, HL.out, HR0, q0⟩
      case round =>
        clear q0 y1 HBEL HU HL HR0 y0
        obtain ⟨t, L, ht, hi, hbel, hu, hL, HP, q0⟩ := hrel
        have HBEL := Lib.hid hbel
        have HU := Lib.hid hu
        have HL := Lib.hid hL
        have y1 : w.heap.size + 1 < wr.heap.size := (Array.getElem?_eq_some_iff.1 hu).1
        have y0 : w.heap.size < wr.heap.size := by omega
        clear hbel hu hL
        rcases t with _ | t
        · obtain rfl := hi
          go_wp2
          go_ret
          exact ⟨_, L, rfl, by omega, HU.out, right_owned HT.out HL.out HP.out, HBEL.out⟩
        · rw [show (((t + 1 : Nat) : Int) - 1) = (t : Int) by omega] at hi
          obtain rfl := hi
          have htn : t < n := by omega
          have ht1 : (t : Int) < (n : Int) := by omega
          have ht0 : (0 : Int) ≤ (t : Int) := by omega
          have hwt : IntKind.i64.wrap ((t : Int) - 1) = (t : Int) - 1 := IntWalk.i64_in _ (by omega)
          obtain ⟨b, o, e, hb, hc⟩ := HR.out.below HBEL.out (by omega)
          subst e
          have c3 : wr.cell? ⟨b, o + t * 4 + 3, none⟩ = some (.slice (A t) (argsOf l t).length (K t)) := hc t htn 3 (by omega)
          clear hc
          have HAX := Lib.hid (HQ.out t htn)
          have hlen := HZ.out t htn
          have HLOW := Lib.hid (fun u (hu : u < (argsOf l t).length) => HT.out.low t htn ((argsOf l t).getD u 0) (by rw [List.getD_eq_getElem?_getD, List.getElem?_eq_getElem hu]; exact List.getElem_mem _))
          have HST := Lib.hid (fun (L : List Int) j c hL hj hc h => right_step HT.out (L := L) (t := t) (j := j) (c := c) htn hL hj hc h)
          have HEN := Lib.hid (fun (L : List Int) h => right_end (l := l) (s := s) (n := n) (m := k) (L := L) (t := t) h)
          have HP2 := Lib.hid (right_two HP.out)
          clear HP
          generalize A t = ax at *
          generalize K t = kx at *
          generalize argsOf l t = f at *
          generalize hq : f.length = q at *
          clear hq
          go_wp2
          go_loopw [42] (fun i wr => ∃ (j : Nat) (L : List Int), j ≤ q ∧ i = .int .i64 j ∧ Below w.heap.size w wr ∧ wr.heap[w.heap.size + 1]? = some (.cells ⟨ownV L⟩ 3 (0, 0)) ∧ L.length = n ∧ Hid (Right l s n k (Done2 l s n t j) L) ∧ wr.cell? ⟨w.heap.size, 0, none⟩ = some (.slice (some ⟨b, o, none⟩) n c)) (fun i _ => q - (intOf i).toNat)
          case atStart => exact ⟨0, L, by omega, rfl, HBEL.out, HU.out, HL.out, HP2, q0⟩
          case round =>
            clear q0 y1 HBEL HU HL HP2 y0 c3
            obtain ⟨j, L, hj, rfl, hbel, hu, hL, HP, q0⟩ := hrel
            have HBEL := Lib.hid hbel
            have HU := Lib.hid hu
            have HL := Lib.hid hL
            have y1 : w.heap.size + 1 < wr.heap.size := (Array.getElem?_eq_some_iff.1 hu).1
            have y0 : w.heap.size < wr.heap.size := by omega
            clear hbel hu hL
            by_cases hjq : j < q
            · have hj1 : (j : Int) < (q : Int) := by omega
              obtain ⟨b2, o2, e2, hb2, hc2⟩ := HAX.out.below HBEL.out (by omega)
              subst e2
              have d0 : wr.cell? ⟨b2, o2 + j, none⟩ = some (.int .i64 (f.getD j 0)) := by
                have := hc2 j hjq 0 (by omega)
                rw [Nat.mul_one, Nat.add_zero] at this
                rw [this]; simp [intAt]
              clear hc2
              obtain ⟨hd1, hd2⟩ := HLOW.out j hjq
              obtain ⟨d, hd⟩ := Int.eq_ofNat_of_zero_le hd1
              have HNX := Lib.hid (HST.out L j d HL.out hjq hd HP.out)
              rw [hd] at d0 hd2
              clear hd hd1
              have hdn : d < n := by omega
              have hdn1 : (d : Int) < (n : Int) := by omega
              have k0 : wr.cell? ⟨w.heap.size + 1, d, none⟩ = some (.int .i64 (L.getD d 0)) := by rw [cell_of_row _ _ d _ _ (0, 0) HU.out]; simpa using ownV_get (by rw [HL.out]; exact hdn)
              have k1 : wr.frozen? ⟨w.heap.size + 1, d, none⟩ = false := frozen_of_row _ _ d _ _ HU.out
              have k2 : wr.cell? ⟨w.heap.size + 1, t, none⟩ = some (.int .i64 (L.getD t 0)) := by rw [cell_of_row _ _ t _ _ (0, 0) HU.out]; simpa using ownV_get (by rw [HL.out]; exact htn)
              generalize L.getD t 0 = vt at *
              go_wp2
              refine ⟨⟨j + 1, L.set d vt, by omega, rfl, below_set_here HBEL.out HU.out (Nat.le_succ _) _ _, ?_, by rw [List.length_set]; exact HL.out, HNX, ?_⟩, by simp only [intOf]; omega⟩
              · rw [← ownV_set]
                exact heap_set_here HU.out _ _
              · exact (World.cell?_of_block (heap_set_other _ _ w.heap.size (Nat.ne_of_lt (Nat.lt_succ_self _)))).trans q0
            · have hj1 : ¬ (j : Int) < (q : Int) := by omega
              obtain rfl : j = q := by omega
              have HNX := Lib.hid (HEN.out L HP.out)
              go_wp2
              refine ⟨⟨t, L, by omega, rfl, HBEL.out, HU.out, HL.out, HNX, q0⟩, by simp only [intOf]; omega⟩
set_option maxRecDepth 100000 in
set_option maxHeartbeats 1000000 in
theorem impl_OwnerOf_c (v : Value) (p : ProgD) (x : Int) (w : World) (hr : ProgramR w v p) (hs : ProgramSz 1048576 p) :
    Calls Try.prog 38 #[v, .int .i64 x] w fun e w' => e = .returned (.int .i64 (ownR p x)) ∧ Below w.heap.size w w' := by
  have HM := Lib.hid hr
  have HS := Lib.hid hs
  obtain ⟨a, c, a', c', rfl, _, _⟩ := hr
  have hs2 := hs.1
  clear hs
  cases hok : validB p
  · have HE := Lib.hid (ownR_no (p := p) (x := x) (fun h => by rw [h.1] at hok; cases hok))
    have HOK := Lib.hid hok
    clear hok
    go_enter Try.func38, Try.ntmps38
    go_wp2_with (go_at_call 36; refine (impl_IsValidProgram_c _ p _ (HM.out.below (by repeat (first | exact Below.refl _ _ | refine Below.drew ?_ | refine Below.alloc ?_ (by first | exact Nat.le_refl _ | (simp; done) | (simp; omega) | omega) _ | refine Below.more ?_ (by first | exact Nat.le_refl _ | (simp; done) | (simp; omega) | omega) _ _ | refine Below.setCell ?_ (by first | exact Nat.le_refl _ | (simp; done) | (simp; omega) | omega) _ | assumption))) HS.out).mono ?_; rw [HOK.out]; rintro e wn ⟨rfl, hbn⟩; obtain ⟨X, nX, rfl⟩ := Below.ext hbn; clear hbn)
    go_ret
    exact ⟨ret_int HE.out.symm, (by repeat (first | exact Below.refl _ _ | refine Below.drew ?_ | refine Below.alloc ?_ (by first | exact Nat.le_refl _ | (simp; done) | (simp; omega) | omega) _ | refine Below.more ?_ (by first | exact Nat.le_refl _ | (simp; done) | (simp; omega) | omega) _ _ | refine Below.setCell ?_ (by first | exact Nat.le_refl _ | (simp; done) | (simp; omega) | omega) _ | assumption))⟩
  · have HOK := Lib.hid hok
    have hwrap : IntKind.i64.wrap ((p.nN : Int) - 1) = (p.nN : Int) - 1 := IntWalk.i64_in _ (by omega)
    clear hok
    cases hin : inB x 0 ((p.nN : Int) - 1)
    · have HE := Lib.hid (ownR_no (p := p) (x := x) (fun h => inB_false.1 hin h.2))
      go_enter Try.func38, Try.ntmps38
      go_wp2_with (first | (go_at_call 36; refine (impl_IsValidProgram_c _ p _ (HM.out.below (by repeat (first | exact Below.refl _ _ | refine Below.drew ?_ | refine Below.alloc ?_ (by first | exact Nat.le_refl _ | (simp; done) | (simp; omega) | omega) _ | refine Below.more ?_ (by first | exact Nat.le_refl _ | (simp; done) | (simp; omega) | omega) _ _ | refine Below.setCell ?_ (by first | exact Nat.le_refl _ | (simp; done) | (simp; omega) | omega) _ | assumption))) HS.out).mono ?_; rw [HOK.out]; rintro e wn ⟨rfl, hbn⟩; obtain ⟨X, nX, rfl⟩ := Below.ext hbn; clear hbn) | (go_at_call 65; refine (within_c _ _ _ _).mono ?_; rw [hin]; rintro e w' ⟨rfl, rfl⟩))
      go_ret
      exact ⟨ret_int HE.out.symm, (by repeat (first | exact Below.refl _ _ | refine Below.drew ?_ | refine Below.alloc ?_ (by first | exact Nat.le_refl _ | (simp; done) | (simp; omega) | omega) _ | refine Below.more ?_ (by first | exact Nat.le_refl _ | (simp; done) | (simp; omega) | omega) _ _ | refine Below.setCell ?_ (by first | exact Nat.le_refl _ | (simp; done) | (simp; omega) | omega) _ | assumption))⟩
    · obtain ⟨hx0, hx1⟩ := inB_true.1 hin
      have HE := Lib.hid (ownR_yes (p := p) (x := x) ⟨HOK.out, hx0, hx1⟩)
      obtain ⟨k, rfl⟩ := Int.eq_ofNat_of_zero_le hx0
      rw [Int.toNat_natCast] at HE
      have hk1 : (k : Int) < (p.nN : Int) := by omega
      have HK := Lib.hid (show k < p.nN by omega)
      have HOW := Lib.hid (fun (W : World) (hb : Below w.heap.size w W) => impl_owners_c _ p W (HM.out.below hb) HS.out HOK.out)
      go_enter Try.func38, Try.ntmps38
      go_wp2_with (first | (go_at_call 36; refine (impl_IsValidProgram_c _ p _ (HM.out.below (by repeat (first | exact Below.refl _ _ | refine Below.drew ?_ | refine Below.alloc ?_ (by first | exact Nat.le_refl _ | (simp; done) | (simp; omega) | omega) _ | refine Below.more ?_ (by first | exact Nat.le_refl _ | (simp; done) | (simp; omega) | omega) _ _ | refine Below.setCell ?_ (by first | exact Nat.le_refl _ | (simp; done) | (simp; omega) | omega) _ | assumption))) HS.out).mono ?_; rw [HOK.out]; rintro e wn ⟨rfl, hbn⟩; obtain ⟨X, nX, rfl⟩ := Below.ext hbn; clear hbn) | (go_at_call 65; refine (within_c _ _ _ _).mono ?_; rw [hin]; rintro e w' ⟨rfl, rfl⟩) | (go_at_call 69; go_loud (refine (HOW.out _ (by repeat (first | exact Below.refl _ _ | refine Below.drew ?_ | refine Below.alloc ?_ (by first | exact Nat.le_refl _ | (simp; done) | (simp; omega) | omega) _ | refine Below.more ?_ (by first | exact Nat.le_refl _ | (simp; done) | (simp; omega) | omega) _ _ | refine Below.setCell ?_ (by first | exact Nat.le_refl _ | (simp; done) | (simp; omega) | omega) _ | assumption))).mono ?_; rintro e wn ⟨U, L, rfl, hU, hu, hL, hbn⟩; have k0 : wn.cell? ⟨U, k, none⟩ = some (.int .i64 (ownR p (k : Int))) := (by rw [cell_of_row _ _ k _ _ (0, 0) hu, HE.out, ← hL.2 k HK.out]; simpa using ownV_get (by rw [hL.1]; exact HK.out)); have y1 : U < wn.heap.size := World.block_lt_of_cell? _ _ k0; have HBN := Lib.hid hbn; clear hbn hu hL)))
      go_ret
      exact ⟨rfl, Below.trans (show Below w.heap.size w _ from (by repeat (first | exact Below.refl _ _ | refine Below.drew ?_ | refine Below.alloc ?_ (by first | exact Nat.le_refl _ | (simp; done) | (simp; omega) | omega) _ | refine Below.more ?_ (by first | exact Nat.le_refl _ | (simp; done) | (simp; omega) | omega) _ _ | refine Below.setCell ?_ (by first | exact Nat.le_refl _ | (simp; done) | (simp; omega) | omega) _ | assumption))) (HBN.out.mono (by first | (simp; done) | (simp; omega)))⟩
set_option maxRecDepth 100000 in
set_option maxHeartbeats 1000000 in
theorem spec_OwnerOf_c (v : Value) (p : ProgD) (x : Int) (w : World) (hr : ProgramR w v p) (hs : ProgramSz 1048576 p) :
    Calls Try.prog 37 #[v, .int .i64 x] w fun e w' => e = .returned (.int .i64 (ownR p x)) ∧ Below w.heap.size w w' := by
  have HM := Lib.hid hr
  have HS := Lib.hid hs
  obtain ⟨a, c, a', c', rfl, _, _⟩ := hr
  have hs2 := hs.1
  clear hs
  cases hok : validB p
  · have HE := Lib.hid (ownR_no (p := p) (x := x) (fun h => by rw [h.1] at hok; cases hok))
    have HOK := Lib.hid hok
    clear hok
    go_enter Try.func37, Try.ntmps37
    go_wp2_with (go_at_call 35; refine (spec_IsValidProgram_c _ p _ (HM.out.below (by repeat (first | exact Below.refl _ _ | refine Below.drew ?_ | refine Below.alloc ?_ (by first | exact Nat.le_refl _ | (simp; done) | (simp; omega) | omega) _ | refine Below.more ?_ (by first | exact Nat.le_refl _ | (simp; done) | (simp; omega) | omega) _ _ | refine Below.setCell ?_ (by first | exact Nat.le_refl _ | (simp; done) | (simp; omega) | omega) _ | assumption))) HS.out).mono ?_; rw [HOK.out]; rintro e wn ⟨rfl, hbn⟩; obtain ⟨X, nX, rfl⟩ := Below.ext hbn; clear hbn)
    go_ret
    exact ⟨ret_int HE.out.symm, (by repeat (first | exact Below.refl _ _ | refine Below.drew ?_ | refine Below.alloc ?_ (by first | exact Nat.le_refl _ | (simp; done) | (simp; omega) | omega) _ | refine Below.more ?_ (by first | exact Nat.le_refl _ | (simp; done) | (simp; omega) | omega) _ _ | refine Below.setCell ?_ (by first | exact Nat.le_refl _ | (simp; done) | (simp; omega) | omega) _ | assumption))⟩
  · have HOK := Lib.hid hok
    have hwrap : IntKind.i64.wrap ((p.nN : Int) - 1) = (p.nN : Int) - 1 := IntWalk.i64_in _ (by omega)
    clear hok
    cases hin : inB x 0 ((p.nN : Int) - 1)
    · have HE := Lib.hid (ownR_no (p := p) (x := x) (fun h => inB_false.1 hin h.2))
      go_enter Try.func37, Try.ntmps37
      go_wp2_with (first | (go_at_call 35; refine (spec_IsValidProgram_c _ p _ (HM.out.below (by repeat (first | exact Below.refl _ _ | refine Below.drew ?_ | refine Below.alloc ?_ (by first | exact Nat.le_refl _ | (simp; done) | (simp; omega) | omega) _ | refine Below.more ?_ (by first | exact Nat.le_refl _ | (simp; done) | (simp; omega) | omega) _ _ | refine Below.setCell ?_ (by first | exact Nat.le_refl _ | (simp; done) | (simp; omega) | omega) _ | assumption))) HS.out).mono ?_; rw [HOK.out]; rintro e wn ⟨rfl, hbn⟩; obtain ⟨X, nX, rfl⟩ := Below.ext hbn; clear hbn) | (go_at_call 60; refine (l01In_c _ _ _ _).mono ?_; rw [hin]; rintro e w' ⟨rfl, rfl⟩))
      go_ret
      exact ⟨ret_int HE.out.symm, (by repeat (first | exact Below.refl _ _ | refine Below.drew ?_ | refine Below.alloc ?_ (by first | exact Nat.le_refl _ | (simp; done) | (simp; omega) | omega) _ | refine Below.more ?_ (by first | exact Nat.le_refl _ | (simp; done) | (simp; omega) | omega) _ _ | refine Below.setCell ?_ (by first | exact Nat.le_refl _ | (simp; done) | (simp; omega) | omega) _ | assumption))⟩
    · obtain ⟨hx0, hx1⟩ := inB_true.1 hin
      have HE := Lib.hid (ownR_yes (p := p) (x := x) ⟨HOK.out, hx0, hx1⟩)
      obtain ⟨k, rfl⟩ := Int.eq_ofNat_of_zero_le hx0
      rw [Int.toNat_natCast] at HE
      have hk1 : (k : Int) < (p.nN : Int) := by omega
      have HK := Lib.hid (show k < p.nN by omega)
      have HOW := Lib.hid (fun (W : World) (hb : Below w.heap.size w W) => l14Owners_c _ p W (HM.out.below hb) HS.out HOK.out)
      go_enter Try.func37, Try.ntmps37
      go_wp2_with (first | (go_at_call 35; refine (spec_IsValidProgram_c _ p _ (HM.out.below (by repeat (first | exact Below.refl _ _ | refine Below.drew ?_ | refine Below.alloc ?_ (by first | exact Nat.le_refl _ | (simp; done) | (simp; omega) | omega) _ | refine Below.more ?_ (by first | exact Nat.le_refl _ | (simp; done) | (simp; omega) | omega) _ _ | refine Below.setCell ?_ (by first | exact Nat.le_refl _ | (simp; done) | (simp; omega) | omega) _ | assumption))) HS.out).mono ?_; rw [HOK.out]; rintro e wn ⟨rfl, hbn⟩; obtain ⟨X, nX, rfl⟩ := Below.ext hbn; clear hbn) | (go_at_call 60; refine (l01In_c _ _ _ _).mono ?_; rw [hin]; rintro e w' ⟨rfl, rfl⟩) | (go_at_call 68; go_loud (refine (HOW.out _ (by repeat (first | exact Below.refl _ _ | refine Below.drew ?_ | refine Below.alloc ?_ (by first | exact Nat.le_refl _ | (simp; done) | (simp; omega) | omega) _ | refine Below.more ?_ (by first | exact Nat.le_refl _ | (simp; done) | (simp; omega) | omega) _ _ | refine Below.setCell ?_ (by first | exact Nat.le_refl _ | (simp; done) | (simp; omega) | omega) _ | assumption))).mono ?_; rintro e wn ⟨U, L, rfl, hU, hu, hL, hbn⟩; have k0 : wn.cell? ⟨U, k, none⟩ = some (.int .i64 (ownR p (k : Int))) := (by rw [cell_of_row _ _ k _ _ (0, 0) hu, HE.out, ← hL.2 k HK.out]; simpa using ownV_get (by rw [hL.1]; exact HK.out)); have y1 : U < wn.heap.size := World.block_lt_of_cell? _ _ k0; have HBN := Lib.hid hbn; clear hbn hu hL)))
      go_ret
      exact ⟨rfl, Below.trans (show Below w.heap.size w _ from (by repeat (first | exact Below.refl _ _ | refine Below.drew ?_ | refine Below.alloc ?_ (by first | exact Nat.le_refl _ | (simp; done) | (simp; omega) | omega) _ | refine Below.more ?_ (by first | exact Nat.le_refl _ | (simp; done) | (simp; omega) | omega) _ _ | refine Below.setCell ?_ (by first | exact Nat.le_refl _ | (simp; done) | (simp; omega) | omega) _ | assumption))) (HBN.out.mono (by first | (simp; done) | (simp; omega)))⟩
end Go.Proofs.Ytgennnoplmhckaa
