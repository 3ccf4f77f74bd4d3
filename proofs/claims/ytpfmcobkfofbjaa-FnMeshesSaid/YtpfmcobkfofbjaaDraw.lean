/- Draws: the cursor, bytes, numbers. -/
import Derived.Test.YtpfmcobkfofbjaaSl
import Derived.Test.YtpfmcobkfofbjaaTrod
import Derived.Test.YtpfmcobkfofbjaaLt
import Derived.Test.YtpfmcobkfofbjaaMath
import Derived.IntWalk
import Derived.WalkLawsBesides
namespace Go.Proofs.Ytpfmcobkfofbjaa
open Go Go.RowKit
/-- The bytes of a slice: byte k is C k. -/
def BS (w : World) (a : Option Addr) (n : Nat) (C : Nat → Nat) : Prop :=
  0 < n → ∃ b o, a = some ⟨b, o, none⟩ ∧ b < w.heap.size ∧ ∀ k, k < n → w.cell? ⟨b, o + k, none⟩ = some (.int .u8 (C k : Int)) ∧ C k < 256
theorem BS.below {w w' : World} {a : Option Addr} {n : Nat} {C : Nat → Nat} (h : BS w a n C) (hb : Below w.heap.size w w') : BS w' a n C := by
  intro hn
  obtain ⟨b, o, rfl, hl, hc⟩ := h hn
  exact ⟨b, o, rfl, Nat.lt_of_lt_of_le hl hb.size, fun k hk => ⟨cell_below hb (hc k hk).1, (hc k hk).2⟩⟩
set_option maxRecDepth 100000 in
theorem open_bytes {H : Type} {enc : TypeId × Value → H} {W : World} {v : Value} {d : DataW H} {p : List MemPlace} {base : Nat} (k : Value.okWide Try.prog W .any base 22 v) (h : DataW.Trod enc Try.prog W 0 (fun _ => true) true 22 v d p) :
    ∃ (a : Option Addr) (cap : Nat) (C : Nat → Nat) (n : Nat), v = .slice a n cap ∧ Hid (BS W a n C) ∧ n ≤ 9223372036854775807 := by
  obtain ⟨a0, n0, cap0, rfl⟩ := WideShapes.okWide_slice Try.underlying22 k
  obtain ⟨fuel, hf⟩ := h
  obtain ⟨a, n, cap, e, hn, hx⟩ := trod_recs (e := 5) (s := 1) (d := 8) (ts := [5]) Try.underlying22 (by kernel_rfl) (by decide) (by decide +kernel) rfl (v := .slice a0 n0 cap0) (by simpa [Value.cells] using hf)
  obtain ⟨rfl, rfl, rfl⟩ : a = a0 ∧ n = n0 ∧ cap = cap0 := by simp at e; exact ⟨e.1.symm, e.2.1.symm, e.2.2.symm⟩
  unfold maxLen at hn
  refine ⟨a, cap, fun i => match a with | some ⟨b, o, _⟩ => (match W.cell? ⟨b, o + i, none⟩ with | some (.int _ z) => z.toNat | _ => 0) | none => 0, n, rfl, Lib.hid (fun h0 => ?_), hn⟩
  obtain ⟨b, o, rfl, hb, hc⟩ := hx h0
  refine ⟨b, o, rfl, hb, fun i hi => ?_⟩
  obtain ⟨u, m, y, hu, ht⟩ := hc i hi 0 (by omega)
  obtain ⟨z, e1, _, hw⟩ := DataW.trod_int Try.underlying5 ht
  obtain rfl : u = .int .u8 z := by simpa using e1
  rw [Nat.mul_one, Nat.add_zero] at hu
  have hz : 0 ≤ z ∧ z < 256 := by
    have hw' : decide (IntKind.u8.min ≤ z) && decide (z ≤ IntKind.u8.max) := hw
    have e1 : IntKind.u8.min = 0 := by decide
    have e2 : IntKind.u8.max = 255 := by decide
    rw [e1, e2] at hw'
    simp at hw'
    omega
  simp only [hu]
  refine ⟨by rw [Int.toNat_of_nonneg hz.1], by omega⟩
/-- A cursor over some bytes lies in block g. -/
def Cur (w : World) (g : Nat) : Prop :=
  ∃ (a : Option Addr) (n cap i : Nat) (h : Int) (C : Nat → Nat), w.heap[g]? = some (.cells #[.slice a n cap, .int .i64 (i : Int), .int .i64 h] 75 (0, 0)) ∧ i ≤ n ∧ n ≤ 1048576 ∧
    (0 < n → ∃ b o, a = some ⟨b, o, none⟩ ∧ b < g ∧ ∀ k, k < n → w.cell? ⟨b, o + k, none⟩ = some (.int .u8 (C k : Int)) ∧ C k < 256)
theorem Cur.lt {w : World} {g : Nat} (h : Cur w g) : g < w.heap.size := by
  obtain ⟨_, _, _, _, _, _, h, _⟩ := h
  exact (Array.getElem?_eq_some_iff.1 h).1
theorem Cur.below {w w' : World} {g : Nat} (h : Cur w g) (hb : Below w.heap.size w w') : Cur w' g := by
  have hl := h.lt
  obtain ⟨a, n, cap, i, hh, C, h1, h2, h3, h5⟩ := h
  refine ⟨a, n, cap, i, hh, C, by rw [hb.block g hl]; exact h1, h2, h3, fun hn => ?_⟩
  obtain ⟨b, o, rfl, hlt, hc⟩ := h5 hn
  exact ⟨b, o, rfl, hlt, fun k hk => ⟨cell_below hb (hc k hk).1, (hc k hk).2⟩⟩
/-- The cursor after a step. -/
def Step (g : Nat) (w w' : World) : Prop := Cur w' g ∧ Chg g (g + 1) w w'
theorem Step.trans {g : Nat} {a b c : World} (h : Step g a b) (k : Step g b c) : Step g a c := ⟨k.1, h.2.trans k.2⟩
def NewCur (w : World) (e : Ending) (w' : World) : Prop := ∃ g, e = .returned (.pointer (some ⟨g, 0, none⟩)) ∧ w.heap.size ≤ g ∧ Cur w' g ∧ Below w.heap.size w w'
set_option maxRecDepth 100000 in
theorem l01New_c (a : Option Addr) (n cap : Nat) (C : Nat → Nat) (w : World) (hb : BS w a n C) (hn : n ≤ 1048576) :
    Calls Try.prog 16 #[.slice a n cap] w (NewCur w) := by
  have HB := Lib.hid hb
  clear hb
  go_enter Try.func16, Try.ntmps16
  go_wp2
  go_loop [3, 4] (fun h i => ∃ (k : Nat) (x : Int), k ≤ n ∧ i = .int .i64 k ∧ h = .int .i64 x) (fun _ i => n - (intOf i).toNat)
  case atStart => exact ⟨0, _, by omega, rfl, rfl⟩
  case round =>
    obtain ⟨k, x, hk, rfl, rfl⟩ := hrel
    by_cases hlt : k < n
    · have hk1 : (k : Int) < (n : Int) := by omega
      obtain ⟨b, o, rfl, hlb, hc⟩ := HB.out (by omega)
      have c0 := (hc k hlt).1
      clear hc
      by_cases h4 : k < 4000
      · have hk4 : (k : Int) < 4000 := by omega
        go_wp2
        go_round
        case rel => exact ⟨k + 1, _, by omega, by go_num, rfl⟩
        case measure => simp [intOf]; omega
      · have hk4 : ¬ (k : Int) < 4000 := by omega
        go_wp2
        go_ret
        refine ⟨w.heap.size, rfl, Nat.le_refl _, ⟨_, n, _, 0, _, C, heap_alloc_new _ _, by omega, hn, fun h0 => ?_⟩, (by repeat (first | exact Below.refl _ _ | refine Below.drew ?_ | refine Below.alloc ?_ (by first | exact Nat.le_refl _ | (simp; done) | (simp; omega) | omega) _ | refine Below.more ?_ (by first | exact Nat.le_refl _ | (simp; done) | (simp; omega) | omega) _ _ | refine Below.setCell ?_ (by first | exact Nat.le_refl _ | (simp; done) | (simp; omega) | omega) _ | assumption))⟩
        obtain ⟨b', o', e, hlb', hc⟩ := HB.out h0
        exact ⟨b', o', e, hlb', fun k hk => ⟨cell_below (by repeat (first | exact Below.refl _ _ | refine Below.drew ?_ | refine Below.alloc ?_ (by first | exact Nat.le_refl _ | (simp; done) | (simp; omega) | omega) _ | refine Below.more ?_ (by first | exact Nat.le_refl _ | (simp; done) | (simp; omega) | omega) _ _ | refine Below.setCell ?_ (by first | exact Nat.le_refl _ | (simp; done) | (simp; omega) | omega) _ | assumption)) (hc k hk).1, (hc k hk).2⟩⟩
    · have hk' : ¬ (k : Int) < (n : Int) := by omega
      go_wp2
      go_ret
      refine ⟨w.heap.size, rfl, Nat.le_refl _, ⟨_, n, _, 0, _, C, heap_alloc_new _ _, by omega, hn, fun h0 => ?_⟩, (by repeat (first | exact Below.refl _ _ | refine Below.drew ?_ | refine Below.alloc ?_ (by first | exact Nat.le_refl _ | (simp; done) | (simp; omega) | omega) _ | refine Below.more ?_ (by first | exact Nat.le_refl _ | (simp; done) | (simp; omega) | omega) _ _ | refine Below.setCell ?_ (by first | exact Nat.le_refl _ | (simp; done) | (simp; omega) | omega) _ | assumption))⟩
      obtain ⟨b', o', e, hlb', hc⟩ := HB.out h0
      exact ⟨b', o', e, hlb', fun k hk => ⟨cell_below (by repeat (first | exact Below.refl _ _ | refine Below.drew ?_ | refine Below.alloc ?_ (by first | exact Nat.le_refl _ | (simp; done) | (simp; omega) | omega) _ | refine Below.more ?_ (by first | exact Nat.le_refl _ | (simp; done) | (simp; omega) | omega) _ _ | refine Below.setCell ?_ (by first | exact Nat.le_refl _ | (simp; done) | (simp; omega) | omega) _ | assumption)) (hc k hk).1, (hc k hk).2⟩⟩
theorem and255 (x : Int) : 0 ≤ bits BinOp.and IntKind.i64 x 255 ∧ bits BinOp.and IntKind.i64 x 255 ≤ 255 := by
  have h : (BitVec.ofInt 64 x &&& BitVec.ofInt 64 255).toNat ≤ 255 := by
    rw [BitVec.toNat_and]
    exact Nat.and_le_right
  have e : bits BinOp.and IntKind.i64 x 255 = IntKind.i64.wrap ((BitVec.ofInt 64 x &&& BitVec.ofInt 64 255).toNat : Int) := rfl
  rw [e, IntWalk.i64_in _ (by omega)]
  omega
theorem Chg.putB {w : World} {g : Nat} {arr : List Value} {e : TypeId} : Chg g (g + 1) w (putB w g arr e) :=
  ⟨rfl, rfl, rfl, by simp, fun k _ ho => heap_putB_other k (by omega)⟩
theorem Cur.chg {w w' : World} {g lo hi : Nat} (h : Cur w g) (k : Chg lo hi w w') (hl : g < lo) : Cur w' g := by
  have hg := h.lt
  obtain ⟨a, n, cap, i, hh, C, h1, h2, h3, h5⟩ := h
  refine ⟨a, n, cap, i, hh, C, by rw [k.block g hg (.inl hl)]; exact h1, h2, h3, fun hn => ?_⟩
  obtain ⟨b, o, rfl, hlt, hc⟩ := h5 hn
  exact ⟨b, o, rfl, hlt, fun j hj => ⟨cell_chg k (.inl (by omega)) (hc j hj).1, (hc j hj).2⟩⟩
/-- The cells that are stored in place of a block's. -/
theorem step_put {w : World} {g n cap i i' : Nat} {x x' : Int} {a : Option Addr} {C : Nat → Nat} (hl : g < w.heap.size) (h2 : i' ≤ n) (h3 : n ≤ 1048576)
    (h5 : 0 < n → ∃ b o, a = some ⟨b, o, none⟩ ∧ b < g ∧ ∀ k, k < n → w.cell? ⟨b, o + k, none⟩ = some (.int .u8 (C k : Int)) ∧ C k < 256) (m : Nat) :
    Step g (putB w g [.slice a n cap, .int .i64 (i : Int), .int .i64 x] 75) ((putB w g [.slice a n cap, .int .i64 (i' : Int), .int .i64 x'] 75).drewN m) := by
  refine ⟨⟨a, n, cap, i', x', C, by rw [World.heap_drewN]; exact heap_putB hl, h2, h3, fun hn => ?_⟩, ⟨rfl, rfl, rfl, by simp, fun k hk ho => ?_⟩⟩
  · obtain ⟨b, o, rfl, hlt, hc⟩ := h5 hn
    refine ⟨b, o, rfl, hlt, fun k hk => ⟨?_, (hc k hk).2⟩⟩
    rw [World.cell?_drewN, World.cell?_of_block (heap_putB_other (w := w) b (by omega))]
    exact (hc k hk).1
  · rw [World.heap_drewN, heap_putB_other k (by omega), heap_putB_other k (by omega)]
theorem step_set {w : World} {g : Nat} {l : List Value} {t : TypeId} (hl : g < w.heap.size) (m j : Nat) (v : Value) : ((putB w g l t).drewN m).setCell ⟨g, j, none⟩ v = (putB w g (l.set j v) t).drewN m := by
  rw [show ((putB w g l t).drewN m).setCell ⟨g, j, none⟩ v = ((putB w g l t).setCell ⟨g, j, none⟩ v).drewN m from rfl, setCell_putB j v hl]
def ByteQ (g : Nat) (w : World) (e : Ending) (w' : World) : Prop := ∃ x : Int, 0 ≤ x ∧ x ≤ 255 ∧ e = .returned (.int .i64 x) ∧ Step g w w'
set_option maxRecDepth 100000 in
theorem l01Byte_c (g : Nat) (w : World) (h : Cur w g) : Calls Try.prog 69 #[.pointer (some ⟨g, 0, none⟩)] w (ByteQ g w) := by
  have hl := h.lt
  obtain ⟨a, n, cap, i, x, C, h1, h2, h3, h5⟩ := h
  have e := putB_self h1
  rw [← e]
  clear h1 e
  have H5 := Lib.hid h5
  clear h5
  by_cases hlt : i < n
  · have hk1 : (i : Int) < (n : Int) := by omega
    obtain ⟨b, o, rfl, hlb, hc⟩ := H5.out (by omega)
    have c0 := (hc i hlt).1
    clear hc
    have hne : b ≠ g := by omega
    have hcp : ∀ arr e, (putB w g arr e).cell? ⟨b, o + i, none⟩ = some (.int .u8 (C i : Int)) := fun arr e => by rw [World.cell?_of_block (heap_putB_other (w := w) (arr := arr) (e := e) b hne)]; exact c0
    go_enter Try.func69, Try.ntmps69
    go_wp2
    go_quiet (fail)
    go_wp2
    go_quiet (fail)
    go_wp2
    go_quiet (fail)
    go_wp2
    go_ret
    exact ⟨_, (and255 _).1, (and255 _).2, rfl, by rw [step_set hl]; exact step_put (i' := i + 1) hl (by omega) h3 H5.out _⟩
  · have hk1 : ¬ (i : Int) < (n : Int) := by omega
    go_enter Try.func69, Try.ntmps69
    go_wp2
    go_quiet (fail)
    go_wp2
    go_quiet (fail)
    go_wp2
    go_ret
    exact ⟨_, (and255 _).1, (and255 _).2, rfl, by rw [World.drewN_drewN]; exact step_put hl h2 h3 H5.out _⟩
def NumQ (g : Nat) (n : Int) (w : World) (e : Ending) (w' : World) : Prop := ∃ x : Int, 0 ≤ x ∧ x < n ∧ e = .returned (.int .i64 x) ∧ Step g w w'
set_option maxRecDepth 100000 in
theorem l01Below_c (g : Nat) (n : Int) (w : World) (h : Cur w g) (h1 : 1 ≤ n) (h2 : n ≤ 1000000) : Calls Try.prog 55 #[.pointer (some ⟨g, 0, none⟩), .int .i64 n] w (NumQ g n w) := by
  have hn0 : ¬ n ≤ 0 := by omega
  by_cases h3 : n ≤ 256
  · go_enter Try.func55, Try.ntmps55
    go_wp2_with fail
    refine (l01Byte_c g w h).mono ?_
    rintro e w1 ⟨x, x1, x2, rfl, s1⟩
    go_wp2
    go_ret
    exact ⟨_, Int.emod_nonneg _ (by omega), Int.emod_lt_of_pos _ (by omega), rfl, s1⟩
  · go_enter Try.func55, Try.ntmps55
    go_wp2_with fail
    refine (l01Byte_c g w h).mono ?_
    rintro e w1 ⟨x, x1, x2, rfl, s1⟩
    go_wp2_with fail
    refine (l01Byte_c g w1 s1.1).mono ?_
    rintro e w2 ⟨y, y1, y2, rfl, s2⟩
    go_wp2_with fail
    refine (l01Byte_c g w2 s2.1).mono ?_
    rintro e w3 ⟨z, z1, z2, rfl, s3⟩
    go_wp2_with fail
    refine (l01Byte_c g w3 s3.1).mono ?_
    rintro e w4 ⟨u, u1, u2, rfl, s4⟩
    go_wp2
    go_ret
    exact ⟨_, Int.emod_nonneg _ (by omega), Int.emod_lt_of_pos _ (by omega), rfl, ((s1.trans s2).trans s3).trans s4⟩
def OnceQ (g : Nat) (w : World) (e : Ending) (w' : World) : Prop := ∃ b : Bool, e = .returned (.bool b) ∧ Step g w w'
theorem l01Once_c (g : Nat) (n : Int) (w : World) (h : Cur w g) (h1 : 1 ≤ n) (h2 : n ≤ 1000000) : Calls Try.prog 33 #[.pointer (some ⟨g, 0, none⟩), .int .i64 n] w (OnceQ g w) := by
  go_enter Try.func33, Try.ntmps33
  go_wp2_with fail
  refine (l01Below_c g n w h h1 h2).mono ?_
  rintro e w1 ⟨x, x1, x2, rfl, s1⟩
  go_wp2
  go_ret
  exact ⟨_, rfl, s1⟩
end Go.Proofs.Ytpfmcobkfofbjaa
