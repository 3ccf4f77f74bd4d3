/- Topo, with Euler ahead of it. -/
import Derived.Test.YtpfmcobkfofbjaaEdgesS
import Derived.Test.YtpfmcobkfofbjaaVertexFacesS
import Derived.Test.YtpfmcobkfofbjaaSubMath
namespace Go.Proofs.Ytpfmcobkfofbjaa
open Go Go.RowKit Go.Maps
def addI (l : List Int) (x : Int) : List Int := if x ∈ l then l else l ++ [x]
def usedF (f : List Int) (l : List Int) (j : Nat) : List Int := (List.range j).foldl (fun l t => addI l (f.getD t 0)) l
theorem usedF_succ (f l : List Int) (j : Nat) : usedF f l (j + 1) = addI (usedF f l j) (f.getD j 0) := by simp [usedF, List.range_succ]
def usedL (s : List (List Int)) (k : Nat) : List Int := (List.range k).foldl (fun l i => usedF (faceAt s i) l 4) []
theorem usedL_succ (s : List (List Int)) (k : Nat) : usedL s (k + 1) = usedF (faceAt s k) (usedL s k) 4 := by simp [usedL, List.range_succ]
theorem mem_addI {l : List Int} {x y : Int} : y ∈ addI l x ↔ y = x ∨ y ∈ l := by
  unfold addI
  split
  · constructor
    · exact fun h => .inr h
    · rintro (rfl | h) <;> assumption
  · simp [or_comm]
theorem nodup_addI {l : List Int} {x : Int} (h : l.Nodup) : (addI l x).Nodup := by
  unfold addI
  split
  · exact h
  · exact nodup_snoc h (by assumption)
theorem addI_len (l : List Int) (x : Int) : (addI l x).length ≤ l.length + 1 := by unfold addI; split <;> simp
theorem nodup_usedF {f l : List Int} (h : l.Nodup) : ∀ j, (usedF f l j).Nodup
  | 0 => h
  | j + 1 => by rw [usedF_succ]; exact nodup_addI (nodup_usedF h j)
theorem nodup_usedL (s : List (List Int)) : ∀ k, (usedL s k).Nodup
  | 0 => List.nodup_nil
  | k + 1 => by rw [usedL_succ]; exact nodup_usedF (nodup_usedL s k) 4
theorem mem_usedF {f l : List Int} {y : Int} : ∀ j, y ∈ usedF f l j ↔ y ∈ l ∨ ∃ t, t < j ∧ f.getD t 0 = y
  | 0 => by simp [usedF]
  | j + 1 => by
    rw [usedF_succ, mem_addI, mem_usedF j]
    constructor
    · rintro (h | h | ⟨t, ht, h⟩)
      · exact .inr ⟨j, by omega, h.symm⟩
      · exact .inl h
      · exact .inr ⟨t, by omega, h⟩
    · rintro (h | ⟨t, ht, h⟩)
      · exact .inr (.inl h)
      · by_cases e : t = j
        · subst e; exact .inl h.symm
        · exact .inr (.inr ⟨t, by omega, h⟩)
theorem mem_usedL {s : List (List Int)} {y : Int} : ∀ k, y ∈ usedL s k ↔ ∃ i t, i < k ∧ t < 4 ∧ (faceAt s i).getD t 0 = y
  | 0 => by simp [usedL]
  | k + 1 => by
    rw [usedL_succ, mem_usedF, mem_usedL k]
    constructor
    · rintro (⟨i, t, h1, h2, h3⟩ | ⟨t, h2, h3⟩)
      · exact ⟨i, t, by omega, h2, h3⟩
      · exact ⟨k, t, by omega, h2, h3⟩
    · rintro ⟨i, t, h1, h2, h3⟩
      by_cases e : i = k
      · subst e; exact .inr ⟨t, h2, h3⟩
      · exact .inl ⟨i, t, by omega, h2, h3⟩
theorem usedF_len (f l : List Int) : ∀ j, (usedF f l j).length ≤ l.length + j
  | 0 => Nat.le_refl _
  | j + 1 => by
    rw [usedF_succ]
    have := addI_len (usedF f l j) (f.getD j 0)
    have := usedF_len f l j
    omega
theorem usedL_len (s : List (List Int)) : ∀ k, (usedL s k).length ≤ 4 * k
  | 0 => Nat.le_refl _
  | k + 1 => by
    rw [usedL_succ]
    have := usedF_len (faceAt s k) (usedL s k) 4
    have := usedL_len s k
    omega
theorem hasB_ex {f : List Int} {x : Int} : hasB f x = true ↔ ∃ t, t < f.length ∧ f.getD t 0 = x := by simp [hasB, inTo]
/-- How many of the first v vertices have a face. -/
noncomputable def cntTo (p : MeshD) (v : Nat) : Nat := ((List.range v).filter fun i : Nat => decide (0 < (vfacesD p i).length)).length
theorem cntTo_succ (p : MeshD) (v : Nat) : cntTo p (v + 1) = cntTo p v + (if 0 < (vfacesD p v).length then 1 else 0) := by
  simp only [cntTo, List.range_succ, List.filter_append, List.length_append, List.filter_cons, List.filter_nil]
  split <;> simp_all
theorem cntTo_le (p : MeshD) (v : Nat) : cntTo p v ≤ v := by
  have := List.length_filter_le (fun i : Nat => decide (0 < (vfacesD p i).length)) (List.range v)
  simpa [cntTo] using this
theorem vf_pos {p : MeshD} (hok : meshOk p) (x : Int) : 0 < (vfacesD p x).length ↔ x ∈ usedL p.faces p.nF := by
  have hb := meshOkB_true.2 hok
  rw [mem_usedL]
  unfold vfacesD
  rw [if_pos hb]
  simp only [vfTo, List.length_map, List.length_pos_iff_exists_mem, List.mem_filter, List.mem_range]
  constructor
  · rintro ⟨i, hi, hh⟩
    have h4 := (hok.2.2.2.1 i hi).1
    obtain ⟨t, ht, e⟩ := hasB_ex.1 hh
    exact ⟨i, t, hi, by omega, e⟩
  · rintro ⟨i, t, hi, ht, e⟩
    have h4 := (hok.2.2.2.1 i hi).1
    exact ⟨i, hi, hasB_ex.2 ⟨t, by omega, e⟩⟩
theorem cnt_used {p : MeshD} (hok : meshOk p) : cntTo p p.nV = (usedL p.faces p.nF).length := by
  have hn := nodup_usedL p.faces p.nF
  have hV : (((List.range p.nV).filter fun i : Nat => decide (0 < (vfacesD p i).length)).map fun i : Nat => (i : Int)).Nodup :=
    List.Pairwise.map _ (fun a b h e => h (by exact_mod_cast e)) (List.nodup_range.filter _)
  refine Nat.le_antisymm ?_ ?_
  · have := nodup_len hV (m := usedL p.faces p.nF) (fun x hx => by
      obtain ⟨i, hi, rfl⟩ := List.mem_map.1 hx
      have := (List.mem_filter.1 hi).2
      exact (vf_pos hok i).1 (by simpa using this))
    simpa [cntTo] using this
  · have := nodup_len hn (m := ((List.range p.nV).filter fun i : Nat => decide (0 < (vfacesD p i).length)).map fun i : Nat => (i : Int)) (fun x hx => by
      have h1 := (vf_pos hok x).2 hx
      obtain ⟨i, t, hi, ht, e⟩ := (mem_usedL _).1 hx
      obtain ⟨h4, hA, _⟩ := hok.2.2.2.1 i hi
      have hr := hA t (by omega)
      rw [e] at hr
      refine List.mem_map.2 ⟨x.toNat, List.mem_filter.2 ⟨List.mem_range.2 (by omega), ?_⟩, by omega⟩
      have e2 : ((x.toNat : Nat) : Int) = x := by omega
      simp only [e2, decide_eq_true_eq]
      exact h1)
    simpa [cntTo] using this
noncomputable def eulerD (p : MeshD) : Int := if meshOkB p then ((usedL p.faces p.nF).length : Int) - ((edgesL p.faces p.nF).length : Int) + (p.nF : Int) else 0
theorem int_law : Keyed Try.prog 3 := int_keyed Try.underlying3
/-- Block b is a map whose keys are ks. -/
def IntSet (w : World) (b n : Nat) (ks : List Int) : Prop :=
  ∃ D : DataW Value, w.ownsMap Try.prog 3 rawElem b n D ∧ Tidy D ∧ (∀ x, (Lit.int .i64 x).wf = true → has D (.int .i64 x) = decide (x ∈ ks)) ∧ Maps.size D = ks.length
theorem IntSet.made (w : World) : IntSet (w.alloc (.map #[] 0)) w.heap.size 0 [] :=
  ⟨.map [], World.ownsMap_made w _ _ _, tidy_empty, fun _ _ => by simp [has_eq], rfl⟩
theorem IntSet.kept {w w' : World} {b n : Nat} {ks : List Int} (h : IntSet w b n ks) (hb : Below w.heap.size w w') : IntSet w' b n ks := by
  obtain ⟨D, h1, h2⟩ := h
  exact ⟨D, h1.kept (grownBy_of_below hb) (by simp), h2⟩
theorem IntSet.lt {w : World} {b n : Nat} {ks : List Int} (h : IntSet w b n ks) : b < w.heap.size := by
  obtain ⟨D, h1, _⟩ := h
  exact h1.lt
theorem IntSet.len {w : World} {b n : Nat} {ks : List Int} (h : IntSet w b n ks) (ty : TypeId) : (Builtin.len_ #[69] ty #[.map (some b)]).run Try.prog w = .ok (.int .i64 (ks.length : Int)) w := by
  obtain ⟨D, h1, _, _, h4⟩ := h
  rw [h1.len Try.underlying69 ty, h4]
theorem IntSet.store {w : World} {b n : Nat} {ks : List Int} (h : IntSet w b n ks) (hn : n < maxLen) {x : Int} (hx : (Lit.int .i64 x).wf = true) (v : Value) :
    ∃ w', (Instr.mapUpdate 69 (.map (some b)) (.int .i64 x) v).run Try.prog w = .ok () w' ∧ IntSet w' b (n + 1) (addI ks x) ∧ Chg b (b + 1) w w' := by
  obtain ⟨D, h1, h3, h4, h5⟩ := h
  have hk : keyOf Try.prog 3 (.int .i64 x) = some (.int .i64 x) := keyOf_int_mk Try.underlying3 hx
  obtain ⟨w', hr, ho, hg⟩ := h1.update int_law Try.underlying69 hn hk (d := .held v) (ps := []) (val := v) rfl
  have hkk := int_law.key hk
  have e4 := h4 x hx
  refine ⟨w', hr, ⟨_, ho, h3.put hkk _, fun y hy => ?_, ?_⟩, ⟨hg.os, hg.tape, hg.output, hg.size, fun j hj ho2 => hg.block j hj (fun e => by cases e; omega)⟩⟩
  · by_cases e : y = x
    · subst e
      rw [has_put_same h3.isMap hkk]
      unfold addI
      split <;> simp_all
    · have hne : (Lit.int .i64 y) ≠ .int .i64 x := fun e2 => e (by simpa using e2)
      rw [has_put_other hne, h4 y hy]
      unfold addI
      split
      · rfl
      · simp [e]
  · rw [size_put h3, e4, h5]
    unfold addI
    by_cases e : x ∈ ks <;> simp [e]
theorem MapV.len {w : World} {b n : Nat} {ks : List (Int × Int)} {F : Int × Int → Value} (h : MapV w b n ks F) (ty : TypeId) : (Builtin.len_ #[48] ty #[.map (some b)]).run Try.prog w = .ok (.int .i64 (ks.length : Int)) w := by
  obtain ⟨D, h1, _, _, _, h4, _⟩ := h
  rw [h1.len Try.underlying48 ty, h4]
@[reducible] def EuS (B b1 : Nat) (u v : Value) (U : Int) (w' : World) : Prop := w'.cell? ⟨B, 0, none⟩ = some u ∧ w'.cell? ⟨B, 1, none⟩ = some v ∧ (Builtin.len_ #[69] 3 #[.map (some b1)]).run Try.prog w' = .ok (.int .i64 U) w'
set_option maxRecDepth 100000 in
set_option maxHeartbeats 4000000 in
theorem impl_EulerCharacteristic_c (v : Value) (p : MeshD) (w : World) (hr : MeshR w v p) (hs : MeshSz 1048576 p) :
    Calls Try.prog 11 #[v] w fun e w' => e = .returned (.int .i64 (eulerD p)) ∧ Below w.heap.size w w' := by
  have HM := Lib.hid hr
  have HS := Lib.hid hs
  have HVM := Lib.hid (fun W (h : Below w.heap.size w W) => impl_IsValidMesh_c _ p W (hr.below h) hs)
  obtain ⟨a, c, a', c', rfl, h1, ⟨A, K, h2, h3, h4⟩⟩ := hr
  clear hs
  cases hok : meshOkB p
  · have HE := Lib.hid (show eulerD p = 0 by simp [eulerD, hok])
    rw [hok] at HVM
    clear hok h1 h2 h3 h4 HM HS
    rw [HE.out]
    go_enter Try.func11, Try.ntmps11
    go_wp2_with (go_at_call 10; refine (HVM.out _ (by repeat (first | exact Below.refl _ _ | refine Below.drew ?_ | refine Below.alloc ?_ (by first | exact Nat.le_refl _ | (simp; done) | (simp; omega) | omega) _ | refine Below.more ?_ (by first | exact Nat.le_refl _ | (simp; done) | (simp; omega) | omega) _ _ | refine Below.setCell ?_ (by first | exact Nat.le_refl _ | (simp; done) | (simp; omega) | omega) _ | assumption))).mono ?_; rintro e wn ⟨rfl, hbn⟩; obtain ⟨X, nX, rfl⟩ := Below.ext hbn; clear hbn)
    go_ret
    exact ⟨rfl, (by repeat (first | exact Below.refl _ _ | refine Below.drew ?_ | refine Below.alloc ?_ (by first | exact Nat.le_refl _ | (simp; done) | (simp; omega) | omega) _ | refine Below.more ?_ (by first | exact Nat.le_refl _ | (simp; done) | (simp; omega) | omega) _ _ | refine Below.setCell ?_ (by first | exact Nat.le_refl _ | (simp; done) | (simp; omega) | omega) _ | assumption))⟩
  · have HE := Lib.hid (show eulerD p = ((usedL p.faces p.nF).length : Int) - ((keysTo p.faces p.nF).length : Int) + (p.nF : Int) by simp [eulerD, hok, edges_len])
    have hop := meshOkB_true.1 hok
    have HFO := Lib.hid hop.2.2.2.1
    have hm64 := hop.2.1
    have hn80 := hop.1
    have HTB := Lib.hid (fun W (h : Below w.heap.size w W) => edgeTable_c _ p W (HM.out.below h) HS.out hop)
    have hul := usedL_len p.faces p.nF
    have hkl : (keysTo p.faces p.nF).length ≤ 4 * p.nF := by rw [← edges_len]; exact edgesL_len p.faces p.nF
    rw [hok] at HVM
    clear hok hop HM HS h1 h4
    obtain ⟨R, hR⟩ : ∃ R, R = eulerD p := ⟨_, rfl⟩
    rw [← hR] at HE ⊢
    clear hR
    have HKN : Hid (∀ W, Below w.heap.size w W → Calls Try.prog 20 #[.agg #[.slice a p.nV c, .slice a' p.nF c']] W fun e w2 => ∃ b2, e = .returned (.map (some b2)) ∧ Below W.heap.size W w2 ∧ (Builtin.len_ #[48] 3 #[.map (some b2)]).run Try.prog w2 = .ok (.int .i64 ((keysTo p.faces p.nF).length : Int)) w2) := Lib.hid (fun W h => (HTB.out W h).mono fun e w2 ⟨b2, F, he, hg, _, hb⟩ => ⟨b2, he, hb, hg.m.len _⟩)
    clear HTB
    generalize (keysTo p.faces p.nF).length = kn at *
    generalize p.nV = n at *
    generalize p.nF = m at *
    generalize p.faces = s at *
    have HF := Lib.hid h2
    have HQ := Lib.hid h3
    clear h2 h3
    have hmm := @run_makeMap Try.prog
    go_enter Try.func11, Try.ntmps11
    go_wp2_with (go_at_call 10; refine (HVM.out _ (by repeat (first | exact Below.refl _ _ | refine Below.drew ?_ | refine Below.alloc ?_ (by first | exact Nat.le_refl _ | (simp; done) | (simp; omega) | omega) _ | refine Below.more ?_ (by first | exact Nat.le_refl _ | (simp; done) | (simp; omega) | omega) _ _ | refine Below.setCell ?_ (by first | exact Nat.le_refl _ | (simp; done) | (simp; omega) | omega) _ | assumption))).mono ?_; rintro e wn ⟨rfl, hbn⟩; obtain ⟨X, nX, rfl⟩ := Below.ext hbn; clear hbn)
    obtain ⟨b1, hb1⟩ : ∃ b1, b1 = w.heap.size + 1 + X.size := ⟨_, rfl⟩
    rw [← hb1]
    have HU0 : Hid (IntSet ((more (w.alloc (.cells #[.slice a n c, .slice a' m c'] 26)) X nX).alloc (.map #[] 0)) b1 0 []) := Lib.hid (by
      have h := IntSet.made (more (w.alloc (.cells #[.slice a n c, .slice a' m c'] 26)) X nX)
      have e : (more (w.alloc (.cells #[.slice a n c, .slice a' m c'] 26)) X nX).heap.size = b1 := by rw [hb1]; simp
      rw [e] at h
      exact h)
    have hbw : w.heap.size + 1 ≤ b1 := by omega
    clear hb1
    have w0' : ((more (w.alloc (.cells #[.slice a n c, .slice a' m c'] 26)) X nX).alloc (.map #[] 0)).cell? ⟨w.heap.size, 0, none⟩ = some (.slice a n c) := by simp [go_sem]
    have w1' : ((more (w.alloc (.cells #[.slice a n c, .slice a' m c'] 26)) X nX).alloc (.map #[] 0)).cell? ⟨w.heap.size, 1, none⟩ = some (.slice a' m c') := by simp [go_sem]
    go_loopw [15] (fun i wr => ∃ (k : Nat), k ≤ m ∧ i = .int .i64 k ∧ IntSet wr b1 (4 * k) (usedL s k) ∧ Below w.heap.size w wr ∧ wr.cell? ⟨w.heap.size, 0, none⟩ = some (.slice a n c) ∧ wr.cell? ⟨w.heap.size, 1, none⟩ = some (.slice a' m c')) (fun i _ => m - (intOf i).toNat)
    case atStart => exact ⟨0, by omega, rfl, HU0.out, (by repeat (first | exact Below.refl _ _ | refine Below.drew ?_ | refine Below.alloc ?_ (by first | exact Nat.le_refl _ | (simp; done) | (simp; omega) | omega) _ | refine Below.more ?_ (by first | exact Nat.le_refl _ | (simp; done) | (simp; omega) | omega) _ _ | refine Below.setCell ?_ (by first | exact Nat.le_refl _ | (simp; done) | (simp; omega) | omega) _ | assumption)), w0', w1'⟩
    case round =>
      clear HU0 w0' w1'
      obtain ⟨k, hk, rfl, hu, hbel, q0, q1⟩ := hrel
      have HU := Lib.hid hu
      have HBEL := Lib.hid hbel
      have y1 : b1 < wr.heap.size := hu.lt
      clear hu hbel
      by_cases hlt : k < m
      · have hk1 : (k : Int) < (m : Int) := by omega
        obtain ⟨b, o, e, hb, hc⟩ := HF.out.below HBEL.out (by omega)
        subst e
        have c0 : wr.cell? ⟨b, o + k, none⟩ = some (.slice (A k) (faceAt s k).length (K k)) := by have := hc k hlt 0 (by omega); rw [Nat.mul_one, Nat.add_zero] at this; exact this
        clear hc
        have hsl : Sl w (A k) 1 (faceAt s k).length (intAt (faceAt s k)) := HQ.out k hlt
        have HOKF := Lib.hid (HFO.out k hlt)
        have hq := HOKF.out.1
        have HSU := Lib.hid (usedL_succ s k)
        generalize A k = ak at *
        generalize K k = kk at *
        generalize faceAt s k = f at *
        generalize usedL s k = L0 at *
        rw [hq] at c0 hsl
        have HSL := Lib.hid hsl
        clear hsl hq
        go_wp2
        go_loopw [21] (fun i wr => ∃ (j : Nat), j ≤ 4 ∧ i = .int .i64 j ∧ IntSet wr b1 (4 * k + j) (usedF f L0 j) ∧ Below w.heap.size w wr ∧ wr.cell? ⟨w.heap.size, 0, none⟩ = some (.slice a n c) ∧ wr.cell? ⟨w.heap.size, 1, none⟩ = some (.slice (some ⟨b, o, none⟩) m c')) (fun i _ => 4 - (intOf i).toNat)
        case atStart => exact ⟨0, by omega, rfl, HU.out, HBEL.out, q0, q1⟩
        case round =>
          clear HU HBEL q0 q1 y1
          obtain ⟨j, hj, rfl, hu, hbel, q0, q1⟩ := hrel
          have HU := Lib.hid hu
          have HBEL := Lib.hid hbel
          have y1 : b1 < wr.heap.size := hu.lt
          clear hu hbel
          by_cases hjl : j < 4
          · have hj1 : (j : Int) < 4 := by omega
            obtain ⟨b2, o2, e2, hb2, hc2⟩ := HSL.out.below HBEL.out (by omega)
            have d0 : wr.cell? ⟨b2, o2 + j, none⟩ = some (.int .i64 (f.getD j 0)) := by
              have := hc2 j hjl 0 (by omega)
              rw [Nat.mul_one, Nat.add_zero] at this
              rw [this]; simp [intAt]
            clear hc2
            subst e2
            have hwf : (Lit.int .i64 (f.getD j 0)).wf = true := (wfE_step HOKF.out (by omega) hjl).1
            have HSS := Lib.hid (usedF_succ f L0 j)
            generalize f.getD j 0 = y at *
            obtain ⟨w2, hrun, hm2, hg2⟩ := HU.out.store (by simp only [maxLen]; omega) hwf (.bool true)
            have HM2 := Lib.hid hm2
            have HB2 := Lib.hid (Below.chg HBEL.out hg2 (by omega) HBEL.out.size)
            have z0 := cell_chg hg2 (.inl (by omega)) q0
            have z1 := cell_chg hg2 (.inl (by omega)) q1
            clear hm2 hg2
            go_wp2
            refine ⟨⟨j + 1, by omega, by go_num, ?_, HB2.out, z0, z1⟩, by simp only [intOf]; omega⟩
            rw [HSS.out]
            exact HM2.out
          · have hj1 : ¬ (j : Int) < 4 := by omega
            obtain rfl : j = 4 := by omega
            go_wp2
            refine ⟨⟨k + 1, by omega, by go_num, ?_, HBEL.out, q0, q1⟩, by simp only [intOf]; omega⟩
            rw [HSU.out]
            exact HU.out
      · have hk1 : ¬ (k : Int) < (m : Int) := by omega
        obtain rfl : k = m := by omega
        generalize usedL s k = U at *
        have hl0 : (Builtin.len_ #[69] 3 #[.map (some b1)]).run Try.prog wr.drew = .ok (.int .i64 (U.length : Int)) wr.drew := (HU.out.kept (Below.drew (Below.refl _ _))).len _
        have hl1 : ∀ W', Below wr.heap.size wr W' → (Builtin.len_ #[69] 3 #[.map (some b1)]).run Try.prog W' = .ok (.int .i64 (U.length : Int)) W' := fun W' hb => (HU.out.kept hb).len _
        have hw1 : IntKind.i64.wrap ((U.length : Int) - (kn : Int)) = (U.length : Int) - (kn : Int) := IntWalk.i64_in _ (by omega)
        have hw2 : IntKind.i64.wrap ((U.length : Int) - (kn : Int) + (k : Int)) = (U.length : Int) - (kn : Int) + (k : Int) := IntWalk.i64_in _ (by omega)
        have HTB := Lib.hid (show ∀ W, EuS w.heap.size b1 (.slice a n c) (.slice a' k c') (U.length : Int) W → Below wr.heap.size wr W → Calls Try.prog 20 #[.agg #[.slice a n c, .slice a' k c']] W fun e w2 => ∃ b2, e = .returned (.map (some b2)) ∧ EuS w.heap.size b1 (.slice a n c) (.slice a' k c') (U.length : Int) w2 ∧ Below wr.heap.size wr w2 ∧ (Builtin.len_ #[48] 3 #[.map (some b2)]).run Try.prog w2 = .ok (.int .i64 (kn : Int)) w2 from fun W hS hW => (HKN.out W (HBEL.out.trans (hW.mono HBEL.out.size))).mono fun e w2 ⟨b2, he, hb, hl⟩ => ⟨b2, he, ⟨cell_below hb hS.1, cell_below hb hS.2.1, hl1 _ (hW.trans (hb.mono hW.size))⟩, hW.trans (hb.mono hW.size), hl⟩)
        go_wp2
        have q2 : wr.drew.cell? ⟨w.heap.size, 0, none⟩ = some (.slice a n c) := q0
        have q3 : wr.drew.cell? ⟨w.heap.size, 1, none⟩ = some (.slice a' k c') := q1
        refine wp_region_noPanic ?_
        refine wp_region_held_drew (S := EuS w.heap.size b1 (.slice a n c) (.slice a' k c') (U.length : Int)) (by kernel_rfl) ⟨q2, q3, hl0⟩ (fun hHeld => ?_)
        (refine' wpAnyH_take (i := 0) (v := ?_) rfl (by kernel_rfl) (by kernel_rfl) (by kernel_rfl) (fun _ _ _ h => h) (Or.inl ⟨by rfl, ?_⟩) (by assumption) ?_; rotate_left; (focus (intro w hSw; (try dsimp only at hSw); go_simp; (try with_reducible rfl))); (try simp only [Act.put, List.setIfInBounds_toArray]))
        (refine' wpAnyH_take (i := 1) (v := ?_) rfl (by kernel_rfl) (by kernel_rfl) (by kernel_rfl) (fun _ _ _ h => h) (Or.inl ⟨by rfl, ?_⟩) (by assumption) ?_; rotate_left; (focus (intro w hSw; (try dsimp only at hSw); go_simp; (try with_reducible rfl))); (try simp only [Act.put]))
        (refine' wpAnyH_take (i := 2) (v := ?_) rfl (by kernel_rfl) (by kernel_rfl) (by kernel_rfl) (fun _ _ _ h => h) (Or.inl ⟨by rfl, ?_⟩) (by assumption) ?_; rotate_left; (focus (intro w hSw; (try dsimp only at hSw); go_simp; (try with_reducible rfl))); (try simp only [Act.put]))
        (refine' wpAnyH_take (i := 6) (v := ?_) rfl (by kernel_rfl) (by kernel_rfl) (by kernel_rfl) (fun _ _ _ h => h) (Or.inl ⟨by rfl, ?_⟩) (by assumption) ?_; rotate_left; (focus (intro w hSw; (try dsimp only at hSw); go_simp; (try with_reducible rfl))); (try simp only [Act.put]))
        (refine' wpAnyH_take (i := 7) (v := ?_) rfl (by kernel_rfl) (by kernel_rfl) (by kernel_rfl) (fun _ _ _ h => h) (Or.inl ⟨by rfl, ?_⟩) (by assumption) ?_; rotate_left; (focus (intro w hSw; (try dsimp only at hSw); go_simp; (try with_reducible rfl))); (try simp only [Act.put]))
        (refine' wpAnyH_take (i := 8) (v := ?_) rfl (by kernel_rfl) (by kernel_rfl) (by kernel_rfl) (fun _ _ _ h => h) (Or.inl ⟨by rfl, ?_⟩) (by assumption) ?_; rotate_left; (focus (intro w hSw; (try dsimp only at hSw); go_simp; (try with_reducible rfl))); (try simp only [Act.put]))
        (refine wpAnyH_ready (rs := [3]) (by kernel_rfl) (by simp) ?_; refine AllReadyH.cons rfl (fun K hK => ?_) AllReadyH.nil; go_simp)
        (go_at_call 20; refine (HTB.out _ ⟨q2, q3, hl0⟩ (by repeat (first | exact Below.refl _ _ | refine Below.drew ?_ | refine Below.alloc ?_ (by first | exact Nat.le_refl _ | (simp; done) | (simp; omega) | omega) _ | refine Below.more ?_ (by first | exact Nat.le_refl _ | (simp; done) | (simp; omega) | omega) _ _ | refine Below.setCell ?_ (by first | exact Nat.le_refl _ | (simp; done) | (simp; omega) | omega) _ | assumption))).mono ?_; rintro e wz ⟨b2, rfl, q, q4, qb⟩; obtain ⟨p1, p2, p3⟩ := q)
        (refine hK.out _ _ ⟨p1, p2, p3⟩ (fun hHeld => ?_); clear hK K; (try simp only [Act.put, List.setIfInBounds_toArray, List.set_cons_zero, List.set_cons_succ]))
        (refine wpAnyH_ready (rs := [4]) (by kernel_rfl) (by simp) ?_; refine AllReadyH.cons rfl (fun K hK => ?_) AllReadyH.nil; go_simp)
        (refine hK.out _ _ ⟨p1, p2, p3⟩ (fun hHeld => ?_); clear hK K; (try simp only [Act.put, List.setIfInBounds_toArray, List.set_cons_zero, List.set_cons_succ]))
        (refine wpAnyH_ready (rs := [5]) (by kernel_rfl) (by simp) ?_; refine AllReadyH.cons rfl (fun K hK => ?_) AllReadyH.nil; go_simp)
        (refine hK.out _ _ ⟨p1, p2, p3⟩ (fun hHeld => ?_); clear hK K; (try simp only [Act.put, List.setIfInBounds_toArray, List.set_cons_zero, List.set_cons_succ]))
        (refine wpAnyH_ready (rs := [9]) (by kernel_rfl) (by simp) ?_; refine AllReadyH.cons rfl (fun K hK => ?_) AllReadyH.nil; go_simp)
        (refine hK.out _ _ ⟨p1, p2, p3⟩ (fun hHeld => ?_); clear hK K; (try simp only [Act.put, List.setIfInBounds_toArray, List.set_cons_zero, List.set_cons_succ]))
        (refine wpAnyH_ready (rs := [10]) (by kernel_rfl) (by simp) ?_; refine AllReadyH.cons rfl (fun K hK => ?_) AllReadyH.nil; go_simp)
        (refine hK.out _ _ ⟨p1, p2, p3⟩ (fun hHeld => ?_); clear hK K; (try simp only [Act.put, List.setIfInBounds_toArray, List.set_cons_zero, List.set_cons_succ]))
        refine wpAnyH_done (by kernel_rfl) ?_ _
        refine NoPanic.normal ?_
        all_goals (go_wp2; go_ret; refine ⟨ret_int HE.out.symm, HBEL.out.trans (q4.mono HBEL.out.size)⟩)
end Go.Proofs.Ytpfmcobkfofbjaa
namespace Go.Proofs.Ytpfmcobkfofbjaa
open Go Go.RowKit
/-- A face more at corner j of face i, of the faces s of k faces and n vertices. -/
def subFaceT (s : List (List Int)) (k n : Nat) (i j : Nat) : List Int :=
  let L := edgesL s k
  let f := faceAt s i
  [f.getD j 0, n + placeE L (und (f.getD j 0, f.getD ((j + 1) % 4) 0)), n + L.length + i, n + placeE L (und (f.getD j 0, f.getD ((j + 3) % 4) 0))]
def subFsT (s : List (List Int)) (k n : Nat) : List (List Int) := (List.range k).flatMap fun i => (List.range 4).map fun j => subFaceT s k n i j
theorem subFs_T (p : MeshD) : subFs p = subFsT p.faces p.nF p.nV := rfl
/-- A face is right. -/
def faceT (n : Nat) (f : List Int) : Bool := decide (f.length = 4) && (List.range 4).all (fun i => decide (0 ≤ f.getD i 0 ∧ f.getD i 0 ≤ (n : Int) - 1)) && (List.range 4).all (fun i => (List.range 4).all fun j => decide (i < j → f.getD i 0 ≠ f.getD j 0))
theorem faceT_ok {n : Nat} {f : List Int} (h : faceT n f = true) : faceOk n f := by
  simp only [faceT, Bool.and_eq_true, decide_eq_true_eq, List.all_eq_true, List.mem_range] at h
  obtain ⟨⟨h1, h2⟩, h3⟩ := h
  exact ⟨h1, fun i hi => h2 i (by omega), fun i j hij hj => h3 i (by omega) j (by omega) hij⟩
/-- Faces, all of them right, no step twice. -/
def topoT (s : List (List Int)) (k n : Nat) : Bool := (List.range k).all (fun i => faceT n (faceAt s i)) && decide (edgesTo s k).Nodup
theorem topoT_ok {s : List (List Int)} {k n : Nat} (h : topoT s k n = true) : (∀ i, i < k → faceOk n (faceAt s i)) ∧ (edgesTo s k).Nodup := by
  simp only [topoT, Bool.and_eq_true, decide_eq_true_eq, List.all_eq_true, List.mem_range] at h
  exact ⟨fun i hi => faceT_ok (h.1 i hi), h.2⟩
def cubeF : List (List Int) := [[0, 2, 3, 1], [4, 5, 7, 6], [0, 1, 5, 4], [2, 6, 7, 3], [0, 4, 6, 2], [1, 3, 7, 5]]
def stripF (n : Nat) : List (List Int) := (List.range n).map fun i : Nat => [2 * (i : Int), 2 * (i : Int) + 2, 2 * (i : Int) + 3, 2 * (i : Int) + 1]
/-- What is checked of faces: s, k of them, n vertices, E edges. -/
def meshT (s : List (List Int)) (k n E : Nat) : Bool :=
  topoT s k n && decide ((edgesL s k).length = E) && topoT (subFsT s k n) (4 * k) (n + E + k) &&
    decide (((usedL (subFsT s k n) (4 * k)).length : Int) - ((edgesL (subFsT s k n) (4 * k)).length : Int) + ((4 * k : Nat) : Int) = ((usedL s k).length : Int) - (E : Int) + (k : Int)) &&
    decide ((bndL (subFsT s k n) (4 * k)).length = 2 * (bndL s k).length)
theorem cube_T : meshT cubeF 6 8 12 = true := by decide +kernel
theorem strip1_T : meshT (stripF 1) 1 4 4 = true := by decide +kernel
theorem strip2_T : meshT (stripF 2) 2 6 7 = true := by decide +kernel
theorem strip3_T : meshT (stripF 3) 3 8 10 = true := by decide +kernel
/-- The faces at a vertex, to be reckoned. -/
def vfC (s : List (List Int)) (x : Int) (k : Nat) : List Int := ((List.range k).filter fun i => (faceAt s i).contains x).map fun i : Nat => (i : Int)
theorem vfC_eq (s : List (List Int)) (x : Int) (k : Nat) : vfTo s x k = vfC s x k := by
  unfold vfTo vfC
  congr 1
  refine List.filter_congr fun i _ => ?_
  rw [Bool.eq_iff_iff]
  simp only [hasB, inTo, decide_eq_true_eq, List.contains_iff_mem]
  constructor
  · rintro ⟨t, ht, e⟩
    rw [List.getD_eq_getElem?_getD, List.getElem?_eq_getElem ht, Option.getD_some] at e
    exact e ▸ List.getElem_mem ht
  · intro h
    obtain ⟨t, ht, e⟩ := List.getElem_of_mem h
    exact ⟨t, ht, by rw [List.getD_eq_getElem?_getD, List.getElem?_eq_getElem ht]; exact e⟩
/-- What is checked of the vertices: on the rim between two edges, or within three faces and three edges. -/
def rimT (s : List (List Int)) (k n : Nat) : Bool := (List.range n).all fun v : Nat => decide ((nbOf (bndL s k) (v : Int)).length = 2) || (decide ((nbOf (bndL s k) (v : Int)).length = 0) && decide ((vfC s (v : Int) k).length = 3) && decide ((nbOf (edgesL s k) (v : Int)).length = 3))
theorem cube_R : rimT cubeF 6 8 = true := by decide +kernel
theorem strip1_R : rimT (stripF 1) 1 4 = true := by decide +kernel
theorem strip2_R : rimT (stripF 2) 2 6 = true := by decide +kernel
theorem strip3_R : rimT (stripF 3) 3 8 = true := by decide +kernel
end Go.Proofs.Ytpfmcobkfofbjaa
