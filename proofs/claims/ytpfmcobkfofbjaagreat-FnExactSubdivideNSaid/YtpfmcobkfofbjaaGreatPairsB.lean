/- Rows of pairs of integers, of one's own, whose blocks all lie from lo on and before hi. -/
import Derived.Test.YtpfmcobkfofbjaaGreatFaceSteps
namespace Go.Proofs.YtpfmcobkfofbjaaGreat
open Go Go.RowKit
def PairIn (w : World) (lo hi : Nat) (a : Option Addr) (p : Int × Int) : Prop := ∃ g, a = some ⟨g, 0, none⟩ ∧ lo ≤ g ∧ g < hi ∧ w.heap[g]? = some (.cells #[.int .i64 p.1, .int .i64 p.2] 3 (0, 0))
structure PairsIn (w : World) (lo hi : Nat) (v : Value) (L : List (Int × Int)) (A : Nat → Option Addr) : Prop where
  own : w.ownsRow lo 45 1 v L.length (slices2 A L.length)
  top : ∀ b, v.ownBlock = some b → b < hi
  pair : ∀ i, i < L.length → PairIn w lo hi (A i) (L.getD i (0, 0))
theorem PairIn.grown {w w' : World} {lo hi : Nat} {a : Option Addr} {p : Int × Int} {row : Option Nat} (h : PairIn w lo hi a p) (hg : w.grownBy w' row) (hr : ∀ b, row = some b → (∃ c fz, w.heap[b]? = some (.cells c 45 fz)) ∨ b < lo ∨ hi ≤ b) : PairIn w' lo hi a p := by
  obtain ⟨g, rfl, hl, hh, hc⟩ := h
  refine ⟨g, rfl, hl, hh, ?_⟩
  rw [hg.block g (Array.getElem?_eq_some_iff.1 hc).1 (fun e => ?_)]
  · exact hc
  · rcases hr g e.symm with ⟨c, fz, he⟩ | h | h
    · rw [hc] at he
      simp only [Option.some.injEq, Obj.cells.injEq] at he
      exact absurd he.2.1 (by decide)
    · omega
    · omega
theorem PairIn.mono {w : World} {lo hi hi' : Nat} {a : Option Addr} {p : Int × Int} (h : PairIn w lo hi a p) (hh : hi ≤ hi') : PairIn w lo hi' a p := by
  obtain ⟨g, rfl, hl, h2, hc⟩ := h
  exact ⟨g, rfl, hl, by omega, hc⟩
theorem PairsIn.mono {w : World} {lo hi hi' : Nat} {v : Value} {L : List (Int × Int)} {A : Nat → Option Addr} (h : PairsIn w lo hi v L A) (hh : hi ≤ hi') : PairsIn w lo hi' v L A :=
  ⟨h.own, fun b hb => Nat.lt_of_lt_of_le (h.top b hb) hh, fun i hi => (h.pair i hi).mono hh⟩
theorem PairsIn.grown {w w' : World} {lo hi : Nat} {v : Value} {L : List (Int × Int)} {A : Nat → Option Addr} {row : Option Nat} (h : PairsIn w lo hi v L A) (hg : w.grownBy w' row) (hr : ∀ b, row = some b → b < lo ∨ hi ≤ b) : PairsIn w' lo hi v L A := by
  refine ⟨own_grown h.own hg (fun b hb e => ?_), h.top, fun i hi => (h.pair i hi).grown hg (fun b hb => Or.inr (hr b hb))⟩
  have h1 := (own_row h.own b e).1
  have h2 := h.top b e
  rcases hr b hb with h3 | h3 <;> omega
theorem PairsIn.below {w w' : World} {lo hi : Nat} {v : Value} {L : List (Int × Int)} {A : Nat → Option Addr} (h : PairsIn w lo hi v L A) (hb : Below w.heap.size w w') : PairsIn w' lo hi v L A :=
  h.grown (grownBy_of_below hb) (fun _ e => by cases e)
theorem PairsIn.lt {w : World} {lo hi : Nat} {v : Value} {L : List (Int × Int)} {A : Nat → Option Addr} (h : PairsIn w lo hi v L A) : ∀ b, v.ownBlock = some b → lo ≤ b ∧ b < w.heap.size := by
  intro b hb
  obtain ⟨h1, c, fz, h2⟩ := own_row h.own b hb
  exact ⟨h1, (Array.getElem?_eq_some_iff.1 h2).1⟩
theorem PairsIn.nil {w : World} {lo hi : Nat} {g : Nat} (hb : lo ≤ g) (hh : g < hi) (hg : w.heap[g]? = some (.cells #[] 45 (0, 0))) : PairsIn w lo hi (.slice (some ⟨g, 0, none⟩) 0 0) [] (fun _ => none) :=
  ⟨⟨rfl, .inr ⟨g, 0, #[], rfl, hb, hg, Nat.le_refl _, by decide, rfl, rfl⟩⟩, fun b e => by simp only [Value.ownBlock, Option.some.injEq] at e; omega, fun i hi => absurd hi (Nat.not_lt_zero _)⟩
theorem PairsIn.form {w : World} {lo hi : Nat} {v : Value} {L : List (Int × Int)} {A : Nat → Option Addr} (h : PairsIn w lo hi v L A) : ∃ a cap, v = .slice a L.length cap := by
  obtain ⟨_, ho⟩ := h.own
  rcases ho with ⟨rfl, h0⟩ | ⟨g, cap, cur, rfl, _⟩
  · exact ⟨none, 0, by rw [h0]⟩
  · exact ⟨_, _, rfl⟩
/-- What is read at place i. -/
theorem PairsIn.read {w : World} {lo hi : Nat} {v : Value} {L : List (Int × Int)} {A : Nat → Option Addr} (h : PairsIn w lo hi v L A) {i : Nat} (hi' : i < L.length) :
    ∃ g cap u, v = .slice (some ⟨g, 0, none⟩) L.length cap ∧ A i = some ⟨u, 0, none⟩ ∧ g < w.heap.size ∧ u < w.heap.size ∧ w.cell? ⟨g, i, none⟩ = some (.slice (some ⟨u, 0, none⟩) 2 2) ∧ w.cell? ⟨u, 0, none⟩ = some (.int .i64 (L.getD i (0, 0)).1) ∧ w.cell? ⟨u, 1, none⟩ = some (.int .i64 (L.getD i (0, 0)).2) := by
  obtain ⟨hl, ho⟩ := h.own
  rcases ho with ⟨_, h0⟩ | ⟨g, cap, cur, rfl, hb, hg, hnc, hcm, hcs, ht⟩
  · omega
  · obtain ⟨u, hu, _, _, hc⟩ := h.pair i hi'
    refine ⟨g, cap, u, rfl, hu, (Array.getElem?_eq_some_iff.1 hg).1, (Array.getElem?_eq_some_iff.1 hc).1, ?_, ?_, ?_⟩
    · rw [cell_of_row w g i cur _ (0, 0) hg]
      have h1 : (slices2 A L.length)[i]? = some (.slice (A i) 2 2) := by simp [slices2, hi']
      rw [← ht, List.getElem?_take, if_pos (by omega)] at h1
      rw [← hu]
      simpa using h1
    · rw [cell_of_row w u 0 _ _ (0, 0) hc]; rfl
    · rw [cell_of_row w u 1 _ _ (0, 0) hc]; rfl
/-- A row gets one pair more. -/
theorem wpList_append_pairIn (w : World) {ops : Array Oper} {rest : List Oper} {o : Oper} {a : Act} {Q : Exit → Act → World → Prop} (hgd : o.guard = none) (s x : Operand)
    (ho : o.op = .call { callee := .builtin .append, args := #[s, x], argTypes := #[23, 23] }) (lo : Nat) (v : Value) (L : List (Int × Int)) (A : Nat → Option Addr) (hs : a.eval s = v) (h : PairsIn w lo w.heap.size v L A)
    (ad : Addr) (c : Nat) (hx : a.eval x = .slice (some ad) 1 c) (g : Nat) (hn : w.cell? ad = some (.slice (some ⟨g, 0, none⟩) 2 2)) (p : Int × Int) (hp : PairIn w lo w.heap.size (some ⟨g, 0, none⟩) p) (hl : L.length ≤ 1048576) (hbase : lo ≤ w.heap.size)
    (hK : ∀ v' w', PairsIn w' lo w'.heap.size v' (L ++ [p]) (upd A L.length (some ⟨g, 0, none⟩)) → w.grownBy w' v.ownBlock → (v'.ownBlock = v.ownBlock ∨ v'.ownBlock = some w.heap.size) → (∀ b, v.ownBlock = some b → lo ≤ b ∧ ∃ c fz, w.heap[b]? = some (.cells c 45 fz)) → wpList Tryz.prog ops Q rest (a.put o.dst v') w') :
    wpList Tryz.prog ops Q (o :: rest) a w := by
  obtain ⟨i0, hi, hz0, hz1, hz2⟩ := info_parts info_IntS
  have hrow := own_row h.own
  refine wpList_append_own_at w hgd s x 23 ho lo 45 i0 _ 1 24 Tryz.underlying23 hi hz0 hz1 hz2 rfl (by decide) v L.length _ hs h.own ad 1 c [.slice (some ⟨g, 0, none⟩) 2 2] hx rfl ?_ ?_ (by simp only [maxLen]; omega) (by omega) hbase ?_
  · intro j u hu
    match j, hu with
    | 0, hu =>
      obtain rfl : Value.slice (some ⟨g, 0, none⟩) 2 2 = u := by simpa using hu
      simpa [Addr.add] using hn
    | j + 1, hu => simp at hu
  · intro u hu
    obtain rfl : u = Value.slice (some ⟨g, 0, none⟩) 2 2 := by simpa using hu
    rfl
  intro v' w' ho' hg hnil hloc
  refine hK v' w' ⟨?_, fun b hb => ?_, fun i hi' => ?_⟩ hg hloc (fun b hb => hrow b hb)
  · rw [List.length_append, List.length_singleton, slices2_succ, upd_self, slices2_congr (fun i hi => upd_lt hi)]
    exact ho'
  · obtain ⟨_, c, fz, h2⟩ := own_row ho' b hb
    exact (Array.getElem?_eq_some_iff.1 h2).1
  · rw [List.length_append, List.length_singleton] at hi'
    rw [getD_snoc]
    by_cases e : i = L.length
    · subst e
      rw [if_pos rfl, upd_self]
      exact (hp.grown hg (fun b hb => Or.inl (hrow b hb).2)).mono hg.size
    · rw [if_neg e, upd_lt (by omega)]
      exact ((h.pair i (by omega)).grown hg (fun b hb => Or.inl (hrow b hb).2)).mono hg.size
set_option maxRecDepth 100000 in
set_option maxHeartbeats 1000000 in
theorem l06StepsB_c (a : Option Addr) (cap : Nat) (f : List Int) (HN : Hid (f.length = 4)) (w : World) (hr : Sl w a 1 4 (intAt f)) :
    Calls Tryz.prog 42 #[.slice a 4 cap] w fun e w' => ∃ sa sc A, e = .returned (.slice sa 4 sc) ∧ PairsIn w' w.heap.size w'.heap.size (.slice sa 4 sc) (stepsOf f) A ∧ Below w.heap.size w w' := by
  have HR := Lib.hid hr
  clear hr
  go_enter Tryz.func42, Tryz.ntmps42
  go_wp2
  go_loopw [3, 9] (fun out i wr => ∃ (k : Nat) (A : Nat → Option Addr), k ≤ 4 ∧ i = .int .i64 k ∧ Below w.heap.size w wr ∧ PairsIn wr w.heap.size wr.heap.size out (stepsTo f k) A) (fun _ i _ => 4 - (intOf i).toNat)
  case atStart => exact ⟨0, fun _ => none, Nat.zero_le _, rfl, (by repeat (first | exact Below.refl _ _ | refine Below.drew ?_ | refine Below.alloc ?_ (by first | exact Nat.le_refl _ | (simp; done) | (simp; omega) | omega) _ | refine Below.more ?_ (by first | exact Nat.le_refl _ | (simp; done) | (simp; omega) | omega) _ _ | refine Below.setCell ?_ (by first | exact Nat.le_refl _ | (simp; done) | (simp; omega) | omega) _ | assumption)), PairsIn.nil (Nat.le_refl _) (by simp) (heap_at_new rfl)⟩
  case round =>
    obtain ⟨k, A, hk, rfl, hbel, hpr⟩ := hrel
    have HBEL := Lib.hid hbel
    have HPR := Lib.hid hpr
    have hbs := hbel.size
    clear hbel hpr
    by_cases hlt : k < 4
    · have hk1 : (k : Int) < 4 := by omega
      have SF := Lib.hid (stepF HN.out hlt)
      obtain ⟨t1, t2, t3, t4, _⟩ := stepF HN.out hlt
      obtain ⟨b, o, rfl, hb, hc⟩ := HR.out.below HBEL.out (by omega)
      have HC := Lib.hid (show ∀ j, j < 4 → wr.cell? ⟨b, o + j, none⟩ = some (.int .i64 (f.getD j 0)) from fun j hj => by
        have := hc j hj 0 (by omega)
        rw [Nat.mul_one, Nat.add_zero] at this
        rw [this]; simp [intAt])
      clear hc
      generalize (k + 1) % 4 = q at *
      have t5 : (q : Int) < 4 := by omega
      have c0 := HC.out k hlt
      have c1 := HC.out q t4
      have HST := Lib.hid (show stepsTo f (k + 1) = stepsTo f k ++ [(f.getD k 0, f.getD q 0)] by rw [stepsTo_succ, SF.out.e])
      have hlen : (stepsTo f k).length ≤ 1048576 := by rw [stepsTo_len]; omega
      generalize f.getD k 0 = x at *
      generalize f.getD q 0 = y at *
      generalize stepsTo f k = xs at *
      go_wp2_with (at_builtin; go_loud (refine wpList_append_pairIn _ rfl _ _ rfl w.heap.size _ xs A rfl ((HPR.out.below (by repeat (first | exact Below.refl _ _ | refine Below.drew ?_ | refine Below.alloc ?_ (by first | exact Nat.le_refl _ | (simp; done) | (simp; omega) | omega) _ | refine Below.more ?_ (by first | exact Nat.le_refl _ | (simp; done) | (simp; omega) | omega) _ _ | refine Below.setCell ?_ (by first | exact Nat.le_refl _ | (simp; done) | (simp; omega) | omega) _ | assumption))).mono (by simp; omega)) _ 1 rfl wr.heap.size ?b2 (x, y) ?b3 hlen ?b4 ?_))
      case b2 => simp [go_sem]
      case b3 => exact ⟨_, rfl, by omega, by (simp; omega), (heap_alloc_old _ _ (by simp)).trans (heap_alloc_new _ _)⟩
      case b4 => simp; omega
      intro v' w' hp' hg hloc hrow
      have HP' := Lib.hid hp'
      have hlt2 := fun b hb => (HPR.out.lt b hb).1
      have HB' := Lib.hid (Below.grown (Below.trans HBEL.out (by repeat (first | exact Below.refl _ _ | refine Below.drew ?_ | refine Below.alloc ?_ (by first | exact Nat.le_refl _ | (simp; done) | (simp; omega) | omega) _ | refine Below.more ?_ (by first | exact Nat.le_refl _ | (simp; done) | (simp; omega) | omega) _ _ | refine Below.setCell ?_ (by first | exact Nat.le_refl _ | (simp; done) | (simp; omega) | omega) _ | assumption))) hg (by simp; omega) hlt2)
      clear hp' hg hloc hrow hlt2
      go_wp2
      refine ⟨⟨k + 1, upd A xs.length (some ⟨wr.heap.size, 0, none⟩), by omega, rfl, HB'.out, ?_⟩, by simp only [intOf]; omega⟩
      rw [HST.out]
      exact HP'.out
    · have hk1 : ¬ (k : Int) < 4 := by omega
      obtain rfl : k = 4 := by omega
      have HE := Lib.hid (show stepsTo f 4 = stepsOf f by rw [stepsOf, HN.out])
      rw [HE.out] at HPR
      obtain ⟨sa, sc, hv⟩ := HPR.out.form
      rw [stepsOf, stepsTo_len, HN.out] at hv
      subst hv
      go_wp2
      go_ret
      first
        | exact ⟨sa, sc, rfl, ⟨A, HPR.out⟩, HBEL.out⟩
        | exact ⟨sa, sc, rfl, A, HPR.out, HBEL.out⟩
        | exact ⟨sa, sc, ⟨rfl, ⟨A, HPR.out⟩, HBEL.out⟩⟩
end Go.Proofs.YtpfmcobkfofbjaaGreat
