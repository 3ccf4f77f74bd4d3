/- Contracts of impl.owners. -/
import Derived.Test.YtgennnoplmhckaaOwners
namespace Go.Proofs.Ytgennnoplmhckaa
open Go Go.RowKit
def ownV (L : List Int) : List Value := L.map (Value.int .i64)
theorem ownV_get {L : List Int} {q : Nat} (h : q < L.length) : (ownV L)[q]? = some (.int .i64 (L.getD q 0)) := by
  simp [ownV, h]
theorem ownV_set {L : List Int} {q : Nat} {o : Int} : (ownV L).set q (.int .i64 o) = ownV (L.set q o) := by simp [ownV, List.map_set]
theorem getD_set {L : List Int} {q x : Nat} {o : Int} (h : x < L.length) : (L.set x o).getD q 0 = if q = x then o else L.getD q 0 := by
  rw [List.getD_eq_getElem?_getD, List.getElem?_set, List.getD_eq_getElem?_getD]
  by_cases e : x = q
  · subst e; simp [h]
  · rw [if_neg e, if_neg (fun h => e h.symm)]
/-- The world as impl.owners' inner function finds it. -/
structure VisW (w0 : World) (U bo bm bv n : Nat) (a : Option Addr) (c : Nat) (W : World) (L : List Int) : Prop where
  o : W.cell? ⟨bo, 0, none⟩ = some (.slice (some ⟨U, 0, none⟩) n n)
  m : W.cell? ⟨bm, 0, none⟩ = some (.slice a n c)
  v : W.cell? ⟨bv, 0, none⟩ = some (.func (.func 88) #[] #[.pointer (some ⟨bo, 0, none⟩), .pointer (some ⟨bm, 0, none⟩), .pointer (some ⟨bv, 0, none⟩)])
  u : W.heap[U]? = some (.cells ⟨ownV L⟩ 3 (0, 0))
  b : Below w0.heap.size w0 W
  n1 : bo ≠ U
  n2 : bm ≠ U
  n3 : bv ≠ U
  lo : w0.heap.size ≤ U
theorem VisW.below {w0 W W' : World} {U bo bm bv n : Nat} {a : Option Addr} {c : Nat} {L : List Int} (h : VisW w0 U bo bm bv n a c W L) (k : Below W.heap.size W W') : VisW w0 U bo bm bv n a c W' L :=
  ⟨cell_below k h.o, cell_below k h.m, cell_below k h.v, (k.block _ (Array.getElem?_eq_some_iff.1 h.u).1).trans h.u, h.b.trans (k.mono h.b.size), h.n1, h.n2, h.n3, h.lo⟩
theorem VisW.set {w0 W : World} {U bo bm bv n : Nat} {a : Option Addr} {c : Nat} {L : List Int} (h : VisW w0 U bo bm bv n a c W L) (x : Nat) (o : Int) : VisW w0 U bo bm bv n a c (W.setCell ⟨U, x, none⟩ (.int .i64 o)) (L.set x o) := by
  have hc : ∀ b off v, b ≠ U → W.cell? ⟨b, off, none⟩ = some v → (W.setCell ⟨U, x, none⟩ (.int .i64 o)).cell? ⟨b, off, none⟩ = some v := fun b off v hb hv => (World.cell?_of_block (heap_set_other x _ b hb)).trans hv
  refine ⟨hc _ _ _ h.n1 h.o, hc _ _ _ h.n2 h.m, hc _ _ _ h.n3 h.v, ?_, below_set_here h.b h.u h.lo x _, h.n1, h.n2, h.n3, h.lo⟩
  rw [heap_set_here h.u x, ownV_set]
theorem chg_set {W : World} {U x : Nat} {v : Value} : Chg U (U + 1) W (W.setCell ⟨U, x, none⟩ v) :=
  ⟨rfl, rfl, rfl, by rw [size_set]; exact Nat.le_refl _, fun k _ ho => heap_set_other x v k (by omega)⟩
/-- q is reached from x itself or through one of its first j arguments. -/
def Reach (l : List NodeD) (x j q : Nat) : Prop := q = x ∨ ∃ t, t < j ∧ ∃ c : Nat, (argsOf l x).getD t 0 = (c : Int) ∧ Sub l c q
theorem Reach.all {l : List NodeD} {x q : Nat} : Reach l x (argsOf l x).length q ↔ Sub l x q := by
  constructor
  · rintro (rfl | ⟨t, ht, c, hc, hs⟩)
    · exact .refl
    · refine Sub.cons ?_ hs
      rw [← hc, List.getD_eq_getElem?_getD, List.getElem?_eq_getElem ht]
      exact List.getElem_mem _
  · intro h
    rcases h.inv with rfl | ⟨a, ha, hs⟩
    · exact .inl rfl
    · obtain ⟨t, ht, he⟩ := List.getElem_of_mem ha
      exact .inr ⟨t, ht, a, by rw [List.getD_eq_getElem?_getD, List.getElem?_eq_getElem ht, he]; rfl, hs⟩
theorem Reach.succ {l : List NodeD} {x j q c : Nat} (hc : (argsOf l x).getD j 0 = (c : Int)) : Reach l x (j + 1) q ↔ Reach l x j q ∨ Sub l c q := by
  constructor
  · rintro (rfl | ⟨t, ht, c', hc', hs⟩)
    · exact .inl (.inl rfl)
    · by_cases e : t = j
      · subst e
        obtain rfl : c' = c := by omega
        exact .inr hs
      · exact .inl (.inr ⟨t, by omega, c', hc', hs⟩)
  · rintro ((rfl | ⟨t, ht, r⟩) | hs)
    · exact .inl rfl
    · exact .inr ⟨t, by omega, r⟩
    · exact .inr ⟨j, by omega, c, hc, hs⟩
set_option maxRecDepth 100000 in
set_option maxHeartbeats 2000000 in
theorem visit_c {l : List NodeD} {s : List AssignmentD} {n m : Nat} (T : Tree l s n m) (w0 : World) (U bo bm bv : Nat) (a : Option Addr) (c : Nat) (A : Nat → Option Addr) (K : Nat → Nat) (h1 : Sl w0 a 4 n (NodeD.at l A K)) (h2 : ∀ i, i < n → Sl w0 (A i) 1 (argsOf l i).length (intAt (argsOf l i))) (hsz : ∀ i, i < n → (argsOf l i).length ≤ 1048576) (hn : n ≤ 1048576) :
    ∀ x : Nat, x < n → ∀ (o : Int) (W : World) (L : List Int), VisW w0 U bo bm bv n a c W L → L.length = n →
    Calls Try.prog 88 #[.int .i64 (x : Int), .int .i64 o, .pointer (some ⟨bo, 0, none⟩), .pointer (some ⟨bm, 0, none⟩), .pointer (some ⟨bv, 0, none⟩)] W fun e W' => (∃ v, e = .returned v) ∧ ∃ L', VisW w0 U bo bm bv n a c W' L' ∧ L'.length = n ∧
      (∀ q, q < n → (Sub l x q → L'.getD q 0 = o) ∧ (¬ Sub l x q → L'.getD q 0 = L.getD q 0)) ∧ Chg U (U + 1) W W' := by
  intro x
  induction x using Nat.strongRecOn with
  | ind x ih =>
    intro hx o W L hv hL
    have HT := Lib.hid T
    have HH1 := Lib.hid h1
    have HH2 := Lib.hid h2
    have HSZ := Lib.hid hsz
    have IH := Lib.hid ih
    have HV := Lib.hid hv
    have HLL := Lib.hid hL
    clear h1 h2 hsz ih T hv hL
    have hx1 : (x : Int) < (n : Int) := by omega
    have hx0 : (0 : Int) ≤ (x : Int) := by omega
    obtain ⟨b, o', ea, hb, hc⟩ := HH1.out (by omega)
    subst ea
    have hlo := HV.out.lo
    have hbU : b ≠ U := by omega
    have c3 : w0.cell? ⟨b, o' + x * 4 + 3, none⟩ = some (.slice (A x) (argsOf l x).length (K x)) := hc x hx 3 (by omega)
    clear hc
    have f0 := HV.out.o
    have f1 := HV.out.m
    have f3 := cell_below HV.out.b c3
    have k0 : W.cell? ⟨U, x, none⟩ = some (.int .i64 (L.getD x 0)) := by rw [cell_of_row _ _ x _ _ (0, 0) HV.out.u]; simpa using ownV_get (by rw [HLL.out]; exact hx)
    have k1 : W.frozen? ⟨U, x, none⟩ = false := frozen_of_row _ _ x _ _ HV.out.u
    have n1 := HV.out.n1
    have n2 := HV.out.n2
    have HV1 := Lib.hid (HV.out.set x o)
    have g1 := HV1.out.m
    have g3 : (W.setCell ⟨U, x, none⟩ (.int .i64 o)).cell? ⟨b, o' + x * 4 + 3, none⟩ = some (.slice (A x) (argsOf l x).length (K x)) := (World.cell?_of_block (heap_set_other x _ b hbU)).trans f3
    have HAX := Lib.hid (HH2.out x hx)
    have hlen := HSZ.out x hx
    have HLOW := Lib.hid (fun t (ht : t < (argsOf l x).length) => HT.out.low x hx ((argsOf l x).getD t 0) (by rw [List.getD_eq_getElem?_getD, List.getElem?_eq_getElem ht]; exact List.getElem_mem _))
    have HRA := Lib.hid (fun q => Reach.all (l := l) (x := x) (q := q))
    have HRS := Lib.hid (fun j q c h => Reach.succ (l := l) (x := x) (j := j) (q := q) (c := c) h)
    generalize A x = ax at *
    generalize K x = kx at *
    generalize argsOf l x = f at *
    generalize hq : f.length = q at *
    have HQ := Lib.hid hq
    clear hq
    go_enter Try.func88, Try.ntmps88
    go_wp2
    go_loopw [20] (fun i wr => ∃ (j : Nat) (Lj : List Int), j ≤ q ∧ i = .int .i64 j ∧ VisW w0 U bo bm bv n (some ⟨b, o', none⟩) c wr Lj ∧ Lj.length = n ∧ Hid (∀ t, t < n → (Reach l x j t → Lj.getD t 0 = o) ∧ (¬ Reach l x j t → Lj.getD t 0 = L.getD t 0)) ∧ Chg U (U + 1) W wr) (fun i _ => q - (intOf i).toNat)
    case atStart =>
      refine ⟨0, L.set x o, by omega, rfl, HV1.out, by rw [List.length_set]; exact HLL.out, Lib.hid (fun t ht => ?_), chg_set⟩
      rw [getD_set (by rw [HLL.out]; exact hx)]
      refine ⟨fun h => ?_, fun h => ?_⟩
      · rcases h with rfl | ⟨t', ht', _⟩
        · rw [if_pos rfl]
        · omega
      · rw [if_neg (fun e => h (.inl e))]
    case round =>
      clear f0 f1 f3 g1 g3 k0 k1 HV1
      obtain ⟨j, Lj, hj, rfl, hv, hLj, HP, hchg⟩ := hrel
      have HV := Lib.hid hv
      have HLJ := Lib.hid hLj
      have HCH := Lib.hid hchg
      have v0 := hv.v
      have y1 : bv < wr.heap.size := World.block_lt_of_cell? _ _ v0
      clear hv hLj hchg
      by_cases hjq : j < q
      · have hj1 : (j : Int) < (q : Int) := by omega
        obtain ⟨b2, o2, e2, hb2, hc2⟩ := HAX.out.below HV.out.b (by omega)
        have d0 : wr.cell? ⟨b2, o2 + j, none⟩ = some (.int .i64 (f.getD j 0)) := by
          have := hc2 j hjq 0 (by omega)
          rw [Nat.mul_one, Nat.add_zero] at this
          rw [this]; simp [intAt]
        clear hc2
        subst e2
        obtain ⟨hd1, hd2⟩ := HLOW.out j hjq
        obtain ⟨d, hd⟩ := Int.eq_ofNat_of_zero_le hd1
        have HR1 := Lib.hid (fun t => HRS.out j t d hd)
        rw [hd] at d0 hd2
        clear hd hd1
        have hdx : d < x := by omega
        have HI := Lib.hid (IH.out d hdx (by omega) o wr Lj HV.out HLJ.out)
        go_wp2_with (go_at_call 88; go_loud (refine HI.out.mono ?_; rintro e W2 ⟨⟨vv, rfl⟩, L2, hv2, hl2, hp2, hc2⟩; have HV2 := Lib.hid hv2; have HP2 := Lib.hid hp2; have HC2 := Lib.hid hc2; clear hv2 hp2 hc2))
        refine ⟨⟨j + 1, L2, by omega, rfl, HV2.out, hl2, Lib.hid (fun t ht => ?_), HCH.out.trans HC2.out⟩, by simp only [intOf]; omega⟩
        obtain ⟨p1, p2⟩ := HP2.out t ht
        obtain ⟨r1, r2⟩ := HP.out t ht
        refine ⟨fun h => ?_, fun h => ?_⟩
        · by_cases hs : Sub l d t
          · exact p1 hs
          · rw [p2 hs]
            rcases (HR1.out t).1 h with h' | h'
            · exact r1 h'
            · exact absurd h' hs
        · rw [p2 (fun hs => h ((HR1.out t).2 (.inr hs))), r2 (fun h' => h ((HR1.out t).2 (.inl h')))]
      · have hj1 : ¬ (j : Int) < (q : Int) := by omega
        obtain rfl : j = q := by omega
        go_wp2
        go_end0
        refine ⟨⟨_, rfl⟩, Lj, HV.out, HLJ.out, fun t ht => ?_, HCH.out⟩
        obtain ⟨r1, r2⟩ := HP.out t ht
        exact ⟨fun h => r1 ((HRA.out t).2 h), fun h => r2 (fun h' => h ((HRA.out t).1 h'))⟩
end Go.Proofs.Ytgennnoplmhckaa
