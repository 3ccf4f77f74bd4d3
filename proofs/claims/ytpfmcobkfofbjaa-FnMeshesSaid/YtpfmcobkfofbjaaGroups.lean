/- A map from edges to slices of integers that the call makes, each slice in a row of its own. -/
import Derived.Test.YtpfmcobkfofbjaaFaceSteps
import Derived.Test.YtpfmcobkfofbjaaAppInt
import Derived.Deep.AppendLies
import Derived.Laws.Cover3
namespace Go.Proofs.Ytpfmcobkfofbjaa
open Go Go.RowKit Go.Maps
def und (p : Int × Int) : Int × Int := (min p.1 p.2, max p.1 p.2)
/-- The face i, once for each of its first j steps that goes along e. -/
def stepHits (f : List Int) (i : Nat) (e : Int × Int) (j : Nat) : List Int := ((List.range j).filter fun t => decide (und (stepAt f t) = e)).map fun _ => (i : Int)
theorem stepHits_succ (f : List Int) (i : Nat) (e : Int × Int) (j : Nat) : stepHits f i e (j + 1) = stepHits f i e j ++ (if und (stepAt f j) = e then [(i : Int)] else []) := by
  simp only [stepHits, List.range_succ, List.filter_append, List.map_append, List.filter_cons, List.filter_nil]
  by_cases h : und (stepAt f j) = e <;> simp [h]
theorem stepHits_len (f : List Int) (i : Nat) (e : Int × Int) (j : Nat) : (stepHits f i e j).length ≤ j := by
  have := List.length_filter_le (fun t => decide (und (stepAt f t) = e)) (List.range j)
  simpa [stepHits] using this
def hitsTo (s : List (List Int)) (e : Int × Int) (k : Nat) : List Int := ((List.range k).map fun i => stepHits (faceAt s i) i e 4).flatten
theorem hitsTo_succ (s : List (List Int)) (e : Int × Int) (k : Nat) : hitsTo s e (k + 1) = hitsTo s e k ++ stepHits (faceAt s k) k e 4 := by simp [hitsTo, List.range_succ]
theorem hitsTo_len (s : List (List Int)) (e : Int × Int) : ∀ k, (hitsTo s e k).length ≤ 4 * k
  | 0 => by simp [hitsTo]
  | k + 1 => by
    rw [hitsTo_succ, List.length_append]
    have := hitsTo_len s e k
    have := stepHits_len (faceAt s k) k e 4
    omega
def putF {α : Type} (F : Int × Int → α) (p : Int × Int) (v : α) : Int × Int → α := fun q => if q = p then v else F q
theorem putF_self {α : Type} (F : Int × Int → α) (p : Int × Int) (v : α) : putF F p v p = v := by simp [putF]
theorem putF_ne {α : Type} {F : Int × Int → α} {p q : Int × Int} {v : α} (h : q ≠ p) : putF F p v q = F q := by simp [putF, h]
def rawElem : Value → Option (DataW Value × List MemPlace) := fun v => some (.held v, [])
theorem zero_ints (w : World) : (zeroValue 57).run Try.prog w = .ok (.slice none 0 0) w := by kernel_rfl
/-- A list with one more element, if it is new. -/
def addK (ks : List (Int × Int)) (p : Int × Int) : List (Int × Int) := if p ∈ ks then ks else ks ++ [p]
def stepKeys (f : List Int) (ks : List (Int × Int)) (j : Nat) : List (Int × Int) := (List.range j).foldl (fun l t => addK l (und (stepAt f t))) ks
theorem stepKeys_succ (f : List Int) (ks : List (Int × Int)) (j : Nat) : stepKeys f ks (j + 1) = addK (stepKeys f ks j) (und (stepAt f j)) := by simp [stepKeys, List.range_succ]
def keysTo (s : List (List Int)) (k : Nat) : List (Int × Int) := (List.range k).foldl (fun l i => stepKeys (faceAt s i) l 4) []
theorem keysTo_succ (s : List (List Int)) (k : Nat) : keysTo s (k + 1) = stepKeys (faceAt s k) (keysTo s k) 4 := by simp [keysTo, List.range_succ]
/-- Block b is a map of at most n edges, whose keys are ks: F says what lies at each. -/
def MapV (w : World) (b n : Nat) (ks : List (Int × Int)) (F : Int × Int → Value) : Prop :=
  ∃ D : DataW Value, w.ownsMap Try.prog 55 rawElem b n D ∧ (∀ p kl, keyOf Try.prog 55 (edgeV p) = some kl → D.atKey kl (.held (.slice none 0 0)) = .held (F p)) ∧
    Tidy D ∧ (∀ p kl, keyOf Try.prog 55 (edgeV p) = some kl → has D kl = decide (p ∈ ks)) ∧ Maps.size D = ks.length ∧ ks.Nodup ∧ ∀ p ∈ ks, wfE p
theorem MapV.made (w : World) : MapV (w.alloc (.map #[] 0)) w.heap.size 0 [] (fun _ => .slice none 0 0) :=
  ⟨.map [], World.ownsMap_made w _ _ _, fun _ _ _ => rfl, tidy_empty, fun _ _ _ => by simp [has_eq], rfl, List.nodup_nil, by simp⟩
theorem MapV.grown {w w' : World} {b n : Nat} {ks : List (Int × Int)} {F : Int × Int → Value} {row : Option Nat} (h : MapV w b n ks F) (hg : w.grownBy w' row) (hne : some b ≠ row) : MapV w' b n ks F := by
  obtain ⟨D, h1, h2⟩ := h
  exact ⟨D, h1.kept hg hne, h2⟩
theorem MapV.kept {w w' : World} {b n : Nat} {ks : List (Int × Int)} {F : Int × Int → Value} (h : MapV w b n ks F) (hb : Below w.heap.size w w') : MapV w' b n ks F := h.grown (grownBy_of_below hb) (by simp)
theorem MapV.lt {w : World} {b n : Nat} {ks : List (Int × Int)} {F : Int × Int → Value} (h : MapV w b n ks F) : b < w.heap.size := by
  obtain ⟨D, h1, _⟩ := h
  exact h1.lt
theorem MapV.isMap {w : World} {b n : Nat} {ks : List (Int × Int)} {F : Int × Int → Value} (h : MapV w b n ks F) : ∃ es clock, w.heap[b]? = some (.map es clock) := by
  obtain ⟨D, ⟨es, clock, hb, _⟩, _⟩ := h
  exact ⟨es, clock, hb⟩
theorem MapV.look {w : World} {b n : Nat} {ks : List (Int × Int)} {F : Int × Int → Value} (h : MapV w b n ks F) {p : Int × Int} (hp : wfE p) :
    (Instr.lookup 48 (.map (some b)) (edgeV p) false).run Try.prog w = .ok (F p) w := by
  obtain ⟨D, h1, h2, _⟩ := h
  obtain ⟨kl, hk⟩ := edge_key hp
  obtain ⟨v, ps, hr, hv⟩ := h1.lookup edge_law Try.underlying48 (zero_ints w) (zd := .held (.slice none 0 0)) (zp := []) rfl hk
  simp only [rawElem, Option.some.injEq, Prod.mk.injEq] at hv
  rw [h2 p kl hk] at hv
  simp only [DataW.held.injEq] at hv
  rw [hr, hv.1]
theorem MapV.store {w : World} {b n : Nat} {ks : List (Int × Int)} {F : Int × Int → Value} (h : MapV w b n ks F) (hn : n < maxLen) {p : Int × Int} (hp : wfE p) (v : Value) :
    ∃ w', (Instr.mapUpdate 48 (.map (some b)) (edgeV p) v).run Try.prog w = .ok () w' ∧ MapV w' b (n + 1) (addK ks p) (putF F p v) ∧ w.grownBy w' (some b) := by
  obtain ⟨D, h1, h2, h3, h4, h5, h6, h7⟩ := h
  obtain ⟨kl, hk⟩ := edge_key hp
  obtain ⟨w', hr, ho, hg⟩ := h1.update edge_law Try.underlying48 hn hk (d := .held v) (ps := []) (val := v) rfl
  have hkk := edge_law.key hk
  have e4 := h4 p kl hk
  refine ⟨w', hr, ⟨_, ho, fun q kq hq => ?_, h3.put hkk _, fun q kq hq => ?_, ?_, ?_, ?_⟩, hg⟩
  · by_cases e : q = p
    · subst e
      have : kq = kl := by rw [hk] at hq; exact (Option.some.inj hq).symm
      subst this
      rw [Maps.atKey_put_same h3.isMap hkk, putF_self]
    · have hne : kq ≠ kl := fun e2 => e (edge_inj hq (e2 ▸ hk))
      rw [Maps.atKey_put_other hne, h2 q kq hq, putF_ne e]
  · by_cases e : q = p
    · subst e
      have : kq = kl := by rw [hk] at hq; exact (Option.some.inj hq).symm
      subst this
      rw [has_put_same h3.isMap hkk]
      unfold addK
      split <;> simp_all
    · have hne : kq ≠ kl := fun e2 => e (edge_inj hq (e2 ▸ hk))
      rw [has_put_other hne, h4 q kq hq]
      unfold addK
      split
      · rfl
      · simp [e]
  · rw [size_put h3, e4, h5]
    unfold addK
    by_cases e : p ∈ ks <;> simp [e]
  · unfold addK
    split
    · exact h6
    · rename_i e
      refine List.nodup_append.2 ⟨h6, by simp, ?_⟩
      intro x hx y hy e2
      simp only [List.mem_singleton] at hy
      subst hy; subst e2
      exact e hx
  · unfold addK
    split
    · exact h7
    · intro q hq
      rcases List.mem_append.1 hq with h8 | h8
      · exact h7 q h8
      · simp only [List.mem_singleton] at h8; subst h8; exact hp
/-- .. and each slice owns its row, from base on; no two one and the same. -/
structure Groups (w : World) (base b n : Nat) (ks : List (Int × Int)) (F : Int × Int → Value) (G : Int × Int → List Int) : Prop where
  m : MapV w b n ks F
  own : ∀ p, w.ownsRow base 3 1 (F p) (G p).length ((G p).map (.int .i64))
  apart : ∀ p q, p ≠ q → ∀ g, (F p).ownBlock = some g → (F q).ownBlock ≠ some g
theorem Groups.kept {w w' : World} {base b n : Nat} {ks : List (Int × Int)} {F : Int × Int → Value} {G : Int × Int → List Int} (h : Groups w base b n ks F G) (hb : Below w.heap.size w w') : Groups w' base b n ks F G :=
  ⟨h.m.kept hb, fun p => own_kept (h.own p) hb, h.apart⟩
theorem Groups.made (w : World) (base : Nat) : Groups (w.alloc (.map #[] 0)) base w.heap.size 0 [] (fun _ => .slice none 0 0) (fun _ => []) :=
  ⟨MapV.made w, fun _ => World.ownsRow_nil _ _ _ _, fun _ _ _ g hg => by simp [Value.ownBlock] at hg⟩
/-- What an append at key p and its store leave. -/
theorem Groups.put {w w1 w2 : World} {base b n : Nat} {ks : List (Int × Int)} {F : Int × Int → Value} {G : Int × Int → List Int} {p : Int × Int} {v' : Value} {x : Int} (h : Groups w base b n ks F G)
    (ho : w1.ownsRow base 3 1 v' ((G p).length + 1) ((G p).map (.int .i64) ++ [.int .i64 x])) (hg : w.grownBy w1 (F p).ownBlock) (hloc : v'.ownBlock = (F p).ownBlock ∨ v'.ownBlock = some w.heap.size)
    (hm : MapV w2 b (n + 1) (addK ks p) (putF F p v')) (hg2 : w1.grownBy w2 (some b)) : Groups w2 base b (n + 1) (addK ks p) (putF F p v') (putF G p (G p ++ [x])) := by
  have hb : ∀ g, v'.ownBlock = some g → g ≠ b := fun g hg3 e => by
    obtain ⟨_, c, fz, hc⟩ := own_row ho g hg3
    obtain ⟨es, ck, hmm⟩ := h.m.isMap
    have : w1.heap[b]? = some (.map es ck) := by
      rw [hg.block b h.m.lt (fun e2 => ?_)]
      · exact hmm
      · obtain ⟨_, c2, fz2, hc2⟩ := own_row (h.own p) b e2.symm
        rw [hmm] at hc2; cases hc2
    rw [e, this] at hc; cases hc
  have hbq : ∀ q g, (F q).ownBlock = some g → g ≠ b := fun q g hg3 e => by
    obtain ⟨_, c, fz, hc⟩ := own_row (h.own q) g hg3
    obtain ⟨es, ck, hmm⟩ := h.m.isMap
    rw [e, hmm] at hc; cases hc
  refine ⟨hm, fun q => ?_, fun q r hqr g hq => ?_⟩
  · by_cases e : q = p
    · subst e
      rw [putF_self, putF_self, List.length_append, List.length_singleton, List.map_append]
      exact own_grown ho hg2 (fun g hg3 => by cases hg3; intro h4; exact hb _ h4 rfl)
    · rw [putF_ne e, putF_ne e]
      refine own_grown (own_grown (h.own q) hg (fun g hg3 => h.apart p q (Ne.symm e) g hg3)) hg2 (fun g hg3 => by cases hg3; intro h4; exact hbq q _ h4 rfl)
  · have old : ∀ q g, (F q).ownBlock = some g → g < w.heap.size := fun q g hq => by
      obtain ⟨_, c, fz, hc⟩ := own_row (h.own q) g hq
      exact (Array.getElem?_eq_some_iff.1 hc).1
    by_cases e1 : q = p
    · subst e1
      have e2 : ¬ r = q := fun e => hqr e.symm
      rw [putF_self] at hq
      rw [putF_ne e2]
      rcases hloc with hl | hl
      · rw [hl] at hq; exact h.apart q r hqr g hq
      · rw [hl] at hq
        intro h5
        have := old r g h5
        simp only [Option.some.injEq] at hq
        omega
    · rw [putF_ne e1] at hq
      by_cases e2 : r = p
      · subst e2
        rw [putF_self]
        rcases hloc with hl | hl
        · rw [hl]; exact h.apart q r hqr g hq
        · rw [hl]
          intro h5
          have := old q g hq
          simp only [Option.some.injEq] at h5
          omega
      · rw [putF_ne e2]
        exact h.apart q r hqr g hq
set_option maxRecDepth 100000 in
set_option maxHeartbeats 1000000 in
theorem und_c (x y : Int) (w : World) : Calls Try.prog 25 #[.agg #[.int .i64 x, .int .i64 y]] w fun e w' => e = .returned (edgeV (und (x, y))) ∧ Below w.heap.size w w' := by
  go_enter Try.func25, Try.ntmps25
  go_wp2
  all_goals (refine bodyPost_ret (v := edgeV (und (x, y))) ?_ rfl ⟨rfl, (by repeat (first | exact Below.refl _ _ | refine Below.drew ?_ | refine Below.alloc ?_ (by first | exact Nat.le_refl _ | (simp; done) | (simp; omega) | omega) _ | refine Below.more ?_ (by first | exact Nat.le_refl _ | (simp; done) | (simp; omega) | omega) _ _ | refine Below.setCell ?_ (by first | exact Nat.le_refl _ | (simp; done) | (simp; omega) | omega) _ | assumption))⟩; simp [results, Try.results25, go_sem, und]; try omega)
end Go.Proofs.Ytpfmcobkfofbjaa
