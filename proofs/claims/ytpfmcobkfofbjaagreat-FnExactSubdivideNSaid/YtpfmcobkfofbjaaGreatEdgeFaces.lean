/- Contracts of EdgeFaces. -/
import Derived.Test.YtpfmcobkfofbjaaGreatEdgeTable
import Derived.Test.YtpfmcobkfofbjaaGreatValidMeshS
import Derived.Test.YtpfmcobkfofbjaaGreatPairsB
namespace Go.Proofs.YtpfmcobkfofbjaaGreat
open Go Go.RowKit Go.Maps
noncomputable def efacesD (p : MeshD) (a b : Int) : List Int := if meshOkB p then hitsTo p.faces (und (a, b)) p.nF else []
theorem efacesD_len (p : MeshD) (a b : Int) : (efacesD p a b).length ≤ 1048576 := by
  unfold efacesD
  split
  · have := hitsTo_len p.faces (und (a, b)) p.nF
    have h := (meshOkB_true.1 (by assumption)).2.1
    omega
  · simp
theorem und_iff (x y a b : Int) : und (x, y) = und (a, b) ↔ (x = a ∧ y = b) ∨ (x = b ∧ y = a) := by
  simp only [und, Prod.mk.injEq]; omega
theorem wfE_und {a b : Int} (ha : (Lit.int .i64 a).wf = true) (hb : (Lit.int .i64 b).wf = true) : wfE (und (a, b)) := by
  unfold und wfE
  simp only [Int.min_def, Int.max_def]
  split <;> exact ⟨by assumption, by assumption⟩
theorem wpList_append_intg (w : World) {ops : Array Oper} {rest : List Oper} {o : Oper} {a : Act} {Q : Exit → Act → World → Prop} (hgd : o.guard = none) (s x : Operand)
    (ho : o.op = .call { callee := .builtin .append, args := #[s, x], argTypes := #[45, 45] }) (base : Nat) (v : Value) (n : Nat) (xs : List Value) (hs : a.eval s = v) (hown : w.ownsRow base 3 1 v n xs)
    (ad : Addr) (c : Nat) (hx : a.eval x = .slice (some ad) 1 c) (y : Int) (hn : w.cell? ad = some (.int .i64 y)) (hl : n ≤ 1048576) (hbase : base ≤ w.heap.size)
    (hK : ∀ v' w', w'.ownsRow base 3 1 v' (n + 1) (xs ++ [.int .i64 y]) → w.grownBy w' v.ownBlock → (v'.ownBlock = v.ownBlock ∨ v'.ownBlock = some w.heap.size) → wpList Tryz.prog ops Q rest (a.put o.dst v') w') :
    wpList Tryz.prog ops Q (o :: rest) a w := by
  obtain ⟨i0, hi, hz0, hz1, hz2⟩ := info_parts info_IntA
  refine wpList_append_own_at w hgd s x 45 ho base 3 i0 _ 1 8 Tryz.underlying45 hi hz0 hz1 hz2 rfl (by decide) v n _ hs hown ad 1 c [.int .i64 y] hx rfl ?_ ?_ (by simp only [maxLen]; omega) (by omega) hbase ?_
  · intro j u hu
    match j, hu with
    | 0, hu =>
      obtain rfl : Value.int .i64 y = u := by simpa using hu
      simpa [Addr.add] using hn
    | j + 1, hu => simp at hu
  · intro u hu
    obtain rfl : u = Value.int .i64 y := by simpa using hu
    rfl
  intro v' w' ho' hg hnil hloc
  exact hK v' w' ho' hg hloc
set_option maxRecDepth 100000 in
set_option maxHeartbeats 2000000 in
theorem spec_EdgeFaces_c (v : Value) (p : MeshD) (x y : Int) (_ : (Lit.int .i64 x).wf = true) (_ : (Lit.int .i64 y).wf = true) (w : World) (hr : MeshR w v p) (hs : MeshSz 1048576 p) :
    Calls Tryz.prog 54 #[v, .int .i64 x, .int .i64 y] w (Gives w 1 (efacesD p x y).length (intAt (efacesD p x y))) := by
  have HM := Lib.hid hr
  have HS := Lib.hid hs
  obtain ⟨a, c, a', c', rfl, h1, ⟨A, K, h2, h3, h4⟩⟩ := hr
  clear hs
  cases hok : meshOkB p
  · have HE := Lib.hid (show efacesD p x y = [] by simp [efacesD, hok])
    have HOK := Lib.hid hok
    clear hok h1 h2 h3 h4
    go_enter Tryz.func54, Tryz.ntmps54
    go_wp2_with (go_at_call 17; refine (spec_IsValidMesh_c _ p _ (HM.out.below (by repeat (first | exact Below.refl _ _ | refine Below.drew ?_ | refine Below.alloc ?_ (by first | exact Nat.le_refl _ | (simp; done) | (simp; omega) | omega) _ | refine Below.more ?_ (by first | exact Nat.le_refl _ | (simp; done) | (simp; omega) | omega) _ _ | refine Below.setCell ?_ (by first | exact Nat.le_refl _ | (simp; done) | (simp; omega) | omega) _ | assumption))) HS.out).mono ?_; rw [HOK.out]; rintro e wn ⟨rfl, hbn⟩; obtain ⟨X, nX, rfl⟩ := Below.ext hbn; clear hbn)
    go_ret
    rw [HE.out]
    exact Gives.nil (by repeat (first | exact Below.refl _ _ | refine Below.drew ?_ | refine Below.alloc ?_ (by first | exact Nat.le_refl _ | (simp; done) | (simp; omega) | omega) _ | refine Below.more ?_ (by first | exact Nat.le_refl _ | (simp; done) | (simp; omega) | omega) _ _ | refine Below.setCell ?_ (by first | exact Nat.le_refl _ | (simp; done) | (simp; omega) | omega) _ | assumption))
  · have HE := Lib.hid (show efacesD p x y = hitsTo p.faces (und (x, y)) p.nF by simp [efacesD, hok])
    have HOK := Lib.hid hok
    have hop := meshOkB_true.1 hok
    have HFO := Lib.hid hop.2.2.2.1
    have hm64 := hop.2.1
    clear hok hop
    have HVM := Lib.hid (fun W (h : Below w.heap.size w W) => spec_IsValidMesh_c _ p W (HM.out.below h) HS.out)
    clear HM HS
    obtain ⟨rw0, hrw0⟩ : ∃ r, r = efacesD p x y := ⟨_, rfl⟩
    rw [← hrw0] at HE ⊢
    clear hrw0
    obtain ⟨e0, he0⟩ : ∃ e0, e0 = und (x, y) := ⟨_, rfl⟩
    have HU := Lib.hid (fun a b => he0 ▸ und_iff a b x y)
    rw [← he0] at HE
    clear he0
    obtain ⟨ok, hok⟩ : ∃ ok, ok = meshOkB p := ⟨_, rfl⟩
    rw [← hok] at HVM HOK
    clear hok h1 h4
    generalize p.nV = n at *
    generalize p.nF = m at *
    generalize p.faces = s at *
    have HF := Lib.hid h2
    have HQ := Lib.hid h3
    clear h2 h3
    go_enter Tryz.func54, Tryz.ntmps54
    go_wp2_with (go_at_call 17; refine (HVM.out _ (by repeat (first | exact Below.refl _ _ | refine Below.drew ?_ | refine Below.alloc ?_ (by first | exact Nat.le_refl _ | (simp; done) | (simp; omega) | omega) _ | refine Below.more ?_ (by first | exact Nat.le_refl _ | (simp; done) | (simp; omega) | omega) _ _ | refine Below.setCell ?_ (by first | exact Nat.le_refl _ | (simp; done) | (simp; omega) | omega) _ | assumption))).mono ?_; rw [HOK.out]; rintro e wn ⟨rfl, hbn⟩; obtain ⟨X, nX, rfl⟩ := Below.ext hbn; clear hbn)
    go_loopw [7, 19] (fun out i wr => ∃ (k : Nat), k ≤ m ∧ i = .int .i64 k ∧ Below w.heap.size w wr ∧ w.heap.size + 1 ≤ wr.heap.size ∧ wr.ownsRow (w.heap.size + 1) 3 1 out (hitsTo s e0 k).length ((hitsTo s e0 k).map (.int .i64))) (fun _ i _ => m - (intOf i).toNat)
    case atStart =>
      refine ⟨0, by omega, rfl, (by repeat (first | exact Below.refl _ _ | refine Below.drew ?_ | refine Below.alloc ?_ (by first | exact Nat.le_refl _ | (simp; done) | (simp; omega) | omega) _ | refine Below.more ?_ (by first | exact Nat.le_refl _ | (simp; done) | (simp; omega) | omega) _ _ | refine Below.setCell ?_ (by first | exact Nat.le_refl _ | (simp; done) | (simp; omega) | omega) _ | assumption)), by simp; omega, ?_⟩
      have hz := World.ownsRow_made (e := 3) (size := 1) (base := w.heap.size + 1) (w.alloc (.cells #[.slice a n c, .slice a' m c'] 29)) #[] 0 (by simp) (by decide) (by simp)
      have hz2 := own_kept hz (w' := more ((w.alloc (.cells #[.slice a n c, .slice a' m c'] 29)).alloc (.cells #[] 3)) X nX) (by repeat (first | exact Below.refl _ _ | refine Below.drew ?_ | refine Below.alloc ?_ (by first | exact Nat.le_refl _ | (simp; done) | (simp; omega) | omega) _ | refine Below.more ?_ (by first | exact Nat.le_refl _ | (simp; done) | (simp; omega) | omega) _ _ | refine Below.setCell ?_ (by first | exact Nat.le_refl _ | (simp; done) | (simp; omega) | omega) _ | assumption))
      simpa [hitsTo] using hz2
    case round =>
      obtain ⟨k, hk, rfl, hbel, hws, hown⟩ := hrel
      have HBEL := Lib.hid hbel
      have HOWN := Lib.hid hown
      clear hbel hown
      by_cases hlt : k < m
      · have hk1 : (k : Int) < (m : Int) := by omega
        obtain ⟨b, o, e, hb, hc⟩ := HF.out.below HBEL.out (by omega)
        subst e
        have c0 : wr.cell? ⟨b, o + k, none⟩ = some (.slice (A k) (faceAt s k).length (K k)) := by have := hc k hlt 0 (by omega); rw [Nat.mul_one, Nat.add_zero] at this; exact this
        clear hc
        have hsl : Sl wr (A k) 1 (faceAt s k).length (intAt (faceAt s k)) := (HQ.out k hlt).below HBEL.out
        have HQL := Lib.hid (HFO.out k hlt).1
        have HSU := Lib.hid (hitsTo_succ s e0 k)
        have hln : (hitsTo s e0 k).length ≤ 256 := Nat.le_trans (hitsTo_len s e0 k) (by omega)
        generalize A k = ak at *
        generalize K k = kk at *
        generalize faceAt s k = f at *
        generalize hitsTo s e0 k = L0 at *
        rw [HQL.out] at c0 hsl
        have HSL := Lib.hid hsl
        clear hsl
        go_wp2_with (go_at_call 42; refine (l06StepsB_c _ _ f HQL _ (HSL.out.below (by repeat (first | exact Below.refl _ _ | refine Below.drew ?_ | refine Below.alloc ?_ (by first | exact Nat.le_refl _ | (simp; done) | (simp; omega) | omega) _ | refine Below.more ?_ (by first | exact Nat.le_refl _ | (simp; done) | (simp; omega) | omega) _ _ | refine Below.setCell ?_ (by first | exact Nat.le_refl _ | (simp; done) | (simp; omega) | omega) _ | assumption)))).mono ?_; rintro e wn ⟨sa, sc, A2, rfl, ho, hbn⟩; have HO := Lib.hid ho; have HBN := Lib.hid hbn; clear ho hbn)
        have HB0 := Lib.hid ((Below.trans HBEL.out (show Below w.heap.size wr wr from (by repeat (first | exact Below.refl _ _ | refine Below.drew ?_ | refine Below.alloc ?_ (by first | exact Nat.le_refl _ | (simp; done) | (simp; omega) | omega) _ | refine Below.more ?_ (by first | exact Nat.le_refl _ | (simp; done) | (simp; omega) | omega) _ _ | refine Below.setCell ?_ (by first | exact Nat.le_refl _ | (simp; done) | (simp; omega) | omega) _ | assumption)))).trans (HBN.out.mono (show w.heap.size ≤ wr.heap.size by omega)))
        have HOW0 := Lib.hid (own_kept HOWN.out HBN.out)
        have HZ0 := Lib.hid (show ∀ g, u7.ownBlock = some g → g < wr.heap.size ∨ wn.heap.size ≤ g from fun g hg => by
          obtain ⟨_, c2, fz2, hc2⟩ := own_row HOWN.out g hg
          exact Or.inl (Array.getElem?_eq_some_iff.1 hc2).1)
        have hws2 := Nat.le_trans hws HBN.out.size
        obtain ⟨lo, hlo⟩ : ∃ lo, lo = wr.heap.size := ⟨_, rfl⟩
        obtain ⟨hi, hhi⟩ : ∃ hi, hi = wn.heap.size := ⟨_, rfl⟩
        have hsz0 : hi ≤ wn.heap.size := by omega
        have HO2 := Lib.hid (show PairsIn wn lo hi (.slice sa 4 sc) (stepsOf f) A2 by rw [hlo, hhi]; exact HO.out)
        have HZ := Lib.hid (show ∀ g, u7.ownBlock = some g → g < lo ∨ hi ≤ g by rw [hlo, hhi]; exact HZ0.out)
        clear hlo hhi HO HZ0 HBN HBEL HOWN HSL hws
        go_loopw [7, 27] (fun out i wr => ∃ (j : Nat), j ≤ 4 ∧ i = .int .i64 j ∧ Below w.heap.size w wr ∧ hi ≤ wr.heap.size ∧ w.heap.size + 1 ≤ wr.heap.size ∧ Hid (∀ g, out.ownBlock = some g → g < lo ∨ hi ≤ g) ∧ PairsIn wr lo hi (.slice sa 4 sc) (stepsOf f) A2 ∧ wr.ownsRow (w.heap.size + 1) 3 1 out (L0 ++ stepHits f k e0 j).length ((L0 ++ stepHits f k e0 j).map (.int .i64))) (fun _ i _ => 4 - (intOf i).toNat)
        case atStart => exact ⟨0, by omega, rfl, HB0.out, hsz0, hws2, HZ, HO2.out, by rw [show stepHits f k e0 0 = [] by simp [stepHits], List.append_nil]; exact HOW0.out⟩
        case round =>
          clear HB0 HOW0 HO2 HZ hsz0 hws2
          obtain ⟨j, hj, rfl, hbel, hsz, hws, HZ, hps, hown⟩ := hrel
          have HBEL := Lib.hid hbel
          have HOWN := Lib.hid hown
          have HPS := Lib.hid hps
          clear hbel hown hps
          by_cases hjl : j < 4
          · have hj1 : (j : Int) < 4 := by omega
            have hls : (stepsOf f).length = 4 := by rw [stepsOf, stepsTo_len, HQL.out]
            have hgd : (stepsOf f).getD j (0, 0) = stepAt f j := by
              rw [List.getD_eq_getElem?_getD, stepsOf, stepsTo, HQL.out, List.getElem?_map, List.getElem?_range hjl]; rfl
            obtain ⟨g, cap2, u, hv, _, hg, hu, d0, d1, d2⟩ := HPS.out.read (i := j) (by rw [hls]; exact hjl)
            rw [hls] at hv
            rw [hgd] at d1 d2
            simp only [Value.slice.injEq] at hv
            obtain ⟨rfl, _, rfl⟩ := hv
            clear hgd hls
            have HYES := Lib.hid (show und (stepAt f j) = e0 → L0 ++ stepHits f k e0 (j + 1) = (L0 ++ stepHits f k e0 j) ++ [(k : Int)] from fun h => by rw [stepHits_succ, if_pos h, List.append_assoc])
            have HNO := Lib.hid (show ¬ und (stepAt f j) = e0 → L0 ++ stepHits f k e0 (j + 1) = L0 ++ stepHits f k e0 j from fun h => by rw [stepHits_succ, if_neg h, List.append_nil])
            have hl2 : (L0 ++ stepHits f k e0 j).length ≤ 1048576 := by rw [List.length_append]; have := stepHits_len f k e0 j; omega
            generalize stepAt f j = pr at *
            obtain ⟨x', y'⟩ := pr
            dsimp only at d1 d2
            generalize L0 ++ stepHits f k e0 j = L at *
            cases b1 : (x' == x) <;> cases b2 : (y' == y) <;> cases b3 : (x' == y) <;> cases b4 : (y' == x)
            · have HF := Lib.hid (HNO.out (fun h => by
                have hh := HU.out x' y' |>.1 h
                simp only [beq_iff_eq, beq_eq_false_iff_ne, ne_eq] at b1 b2 b3 b4
                omega))
              go_wp2
              exact ⟨⟨j + 1, by omega, rfl, Below.trans HBEL.out (by repeat (first | exact Below.refl _ _ | refine Below.drew ?_ | refine Below.alloc ?_ (by first | exact Nat.le_refl _ | (simp; done) | (simp; omega) | omega) _ | refine Below.more ?_ (by first | exact Nat.le_refl _ | (simp; done) | (simp; omega) | omega) _ _ | refine Below.setCell ?_ (by first | exact Nat.le_refl _ | (simp; done) | (simp; omega) | omega) _ | assumption)), (by first | omega | (simp; omega)), (by first | omega | (simp; omega)), HZ, HPS.out.below (by repeat (first | exact Below.refl _ _ | refine Below.drew ?_ | refine Below.alloc ?_ (by first | exact Nat.le_refl _ | (simp; done) | (simp; omega) | omega) _ | refine Below.more ?_ (by first | exact Nat.le_refl _ | (simp; done) | (simp; omega) | omega) _ _ | refine Below.setCell ?_ (by first | exact Nat.le_refl _ | (simp; done) | (simp; omega) | omega) _ | assumption)), by rw [HF.out]; exact own_kept HOWN.out (by repeat (first | exact Below.refl _ _ | refine Below.drew ?_ | refine Below.alloc ?_ (by first | exact Nat.le_refl _ | (simp; done) | (simp; omega) | omega) _ | refine Below.more ?_ (by first | exact Nat.le_refl _ | (simp; done) | (simp; omega) | omega) _ _ | refine Below.setCell ?_ (by first | exact Nat.le_refl _ | (simp; done) | (simp; omega) | omega) _ | assumption))⟩, by simp only [intOf]; omega⟩
            · have HF := Lib.hid (HNO.out (fun h => by
                have hh := HU.out x' y' |>.1 h
                simp only [beq_iff_eq, beq_eq_false_iff_ne, ne_eq] at b1 b2 b3 b4
                omega))
              go_wp2
              exact ⟨⟨j + 1, by omega, rfl, Below.trans HBEL.out (by repeat (first | exact Below.refl _ _ | refine Below.drew ?_ | refine Below.alloc ?_ (by first | exact Nat.le_refl _ | (simp; done) | (simp; omega) | omega) _ | refine Below.more ?_ (by first | exact Nat.le_refl _ | (simp; done) | (simp; omega) | omega) _ _ | refine Below.setCell ?_ (by first | exact Nat.le_refl _ | (simp; done) | (simp; omega) | omega) _ | assumption)), (by first | omega | (simp; omega)), (by first | omega | (simp; omega)), HZ, HPS.out.below (by repeat (first | exact Below.refl _ _ | refine Below.drew ?_ | refine Below.alloc ?_ (by first | exact Nat.le_refl _ | (simp; done) | (simp; omega) | omega) _ | refine Below.more ?_ (by first | exact Nat.le_refl _ | (simp; done) | (simp; omega) | omega) _ _ | refine Below.setCell ?_ (by first | exact Nat.le_refl _ | (simp; done) | (simp; omega) | omega) _ | assumption)), by rw [HF.out]; exact own_kept HOWN.out (by repeat (first | exact Below.refl _ _ | refine Below.drew ?_ | refine Below.alloc ?_ (by first | exact Nat.le_refl _ | (simp; done) | (simp; omega) | omega) _ | refine Below.more ?_ (by first | exact Nat.le_refl _ | (simp; done) | (simp; omega) | omega) _ _ | refine Below.setCell ?_ (by first | exact Nat.le_refl _ | (simp; done) | (simp; omega) | omega) _ | assumption))⟩, by simp only [intOf]; omega⟩
            · have HF := Lib.hid (HNO.out (fun h => by
                have hh := HU.out x' y' |>.1 h
                simp only [beq_iff_eq, beq_eq_false_iff_ne, ne_eq] at b1 b2 b3 b4
                omega))
              go_wp2
              exact ⟨⟨j + 1, by omega, rfl, Below.trans HBEL.out (by repeat (first | exact Below.refl _ _ | refine Below.drew ?_ | refine Below.alloc ?_ (by first | exact Nat.le_refl _ | (simp; done) | (simp; omega) | omega) _ | refine Below.more ?_ (by first | exact Nat.le_refl _ | (simp; done) | (simp; omega) | omega) _ _ | refine Below.setCell ?_ (by first | exact Nat.le_refl _ | (simp; done) | (simp; omega) | omega) _ | assumption)), (by first | omega | (simp; omega)), (by first | omega | (simp; omega)), HZ, HPS.out.below (by repeat (first | exact Below.refl _ _ | refine Below.drew ?_ | refine Below.alloc ?_ (by first | exact Nat.le_refl _ | (simp; done) | (simp; omega) | omega) _ | refine Below.more ?_ (by first | exact Nat.le_refl _ | (simp; done) | (simp; omega) | omega) _ _ | refine Below.setCell ?_ (by first | exact Nat.le_refl _ | (simp; done) | (simp; omega) | omega) _ | assumption)), by rw [HF.out]; exact own_kept HOWN.out (by repeat (first | exact Below.refl _ _ | refine Below.drew ?_ | refine Below.alloc ?_ (by first | exact Nat.le_refl _ | (simp; done) | (simp; omega) | omega) _ | refine Below.more ?_ (by first | exact Nat.le_refl _ | (simp; done) | (simp; omega) | omega) _ _ | refine Below.setCell ?_ (by first | exact Nat.le_refl _ | (simp; done) | (simp; omega) | omega) _ | assumption))⟩, by simp only [intOf]; omega⟩
            · have HF := Lib.hid (HYES.out ((HU.out x' y').2 (by
                simp only [beq_iff_eq, beq_eq_false_iff_ne, ne_eq] at b1 b2 b3 b4
                omega)))
              go_wp2_with (at_builtin; go_loud (refine wpList_append_intg _ rfl _ _ rfl (w.heap.size + 1) _ _ _ rfl (own_kept HOWN.out (by repeat (first | exact Below.refl _ _ | refine Below.drew ?_ | refine Below.alloc ?_ (by first | exact Nat.le_refl _ | (simp; done) | (simp; omega) | omega) _ | refine Below.more ?_ (by first | exact Nat.le_refl _ | (simp; done) | (simp; omega) | omega) _ _ | refine Below.setCell ?_ (by first | exact Nat.le_refl _ | (simp; done) | (simp; omega) | omega) _ | assumption))) _ 1 rfl (k : Int) ?c1 hl2 ?c2 ?_))
              case c1 => simp [go_sem]
              case c2 => first | omega | (simp; omega)
              intro v' w' hp' hg' hloc'
              have HP' := Lib.hid hp'
              have HB' := Lib.hid (Below.grown (Below.trans HBEL.out (show Below w.heap.size wr _ from (by repeat (first | exact Below.refl _ _ | refine Below.drew ?_ | refine Below.alloc ?_ (by first | exact Nat.le_refl _ | (simp; done) | (simp; omega) | omega) _ | refine Below.more ?_ (by first | exact Nat.le_refl _ | (simp; done) | (simp; omega) | omega) _ _ | refine Below.setCell ?_ (by first | exact Nat.le_refl _ | (simp; done) | (simp; omega) | omega) _ | assumption)))) hg' (by first | omega | (simp; omega)) (fun b hb => by have := (own_row HOWN.out b hb).1; omega))
              have HPS' := Lib.hid ((HPS.out.below (by repeat (first | exact Below.refl _ _ | refine Below.drew ?_ | refine Below.alloc ?_ (by first | exact Nat.le_refl _ | (simp; done) | (simp; omega) | omega) _ | refine Below.more ?_ (by first | exact Nat.le_refl _ | (simp; done) | (simp; omega) | omega) _ _ | refine Below.setCell ?_ (by first | exact Nat.le_refl _ | (simp; done) | (simp; omega) | omega) _ | assumption))).grown hg' (fun b hb => HZ.out b hb))
              have hsz' : hi ≤ w'.heap.size := Nat.le_trans (by first | omega | (simp; omega)) hg'.size
              have hws' : w.heap.size + 1 ≤ w'.heap.size := Nat.le_trans (by first | omega | (simp; omega)) hg'.size
              have HZ' : Hid (∀ g, v'.ownBlock = some g → g < lo ∨ hi ≤ g) := Lib.hid (fun g hgv => by
                rcases hloc' with h | h
                · exact HZ.out g (h ▸ hgv)
                · rw [h] at hgv
                  simp only [Option.some.injEq] at hgv
                  subst hgv
                  first | (right; omega) | (right; simp; omega))
              clear hp' hg' hloc'
              go_wp2
              refine ⟨⟨j + 1, by omega, rfl, HB'.out, hsz', hws', HZ', HPS'.out, ?_⟩, by simp only [intOf]; omega⟩
              rw [HF.out, List.length_append, List.length_singleton, List.map_append]
              exact HP'.out
            · have HF := Lib.hid (HNO.out (fun h => by
                have hh := HU.out x' y' |>.1 h
                simp only [beq_iff_eq, beq_eq_false_iff_ne, ne_eq] at b1 b2 b3 b4
                omega))
              go_wp2
              exact ⟨⟨j + 1, by omega, rfl, Below.trans HBEL.out (by repeat (first | exact Below.refl _ _ | refine Below.drew ?_ | refine Below.alloc ?_ (by first | exact Nat.le_refl _ | (simp; done) | (simp; omega) | omega) _ | refine Below.more ?_ (by first | exact Nat.le_refl _ | (simp; done) | (simp; omega) | omega) _ _ | refine Below.setCell ?_ (by first | exact Nat.le_refl _ | (simp; done) | (simp; omega) | omega) _ | assumption)), (by first | omega | (simp; omega)), (by first | omega | (simp; omega)), HZ, HPS.out.below (by repeat (first | exact Below.refl _ _ | refine Below.drew ?_ | refine Below.alloc ?_ (by first | exact Nat.le_refl _ | (simp; done) | (simp; omega) | omega) _ | refine Below.more ?_ (by first | exact Nat.le_refl _ | (simp; done) | (simp; omega) | omega) _ _ | refine Below.setCell ?_ (by first | exact Nat.le_refl _ | (simp; done) | (simp; omega) | omega) _ | assumption)), by rw [HF.out]; exact own_kept HOWN.out (by repeat (first | exact Below.refl _ _ | refine Below.drew ?_ | refine Below.alloc ?_ (by first | exact Nat.le_refl _ | (simp; done) | (simp; omega) | omega) _ | refine Below.more ?_ (by first | exact Nat.le_refl _ | (simp; done) | (simp; omega) | omega) _ _ | refine Below.setCell ?_ (by first | exact Nat.le_refl _ | (simp; done) | (simp; omega) | omega) _ | assumption))⟩, by simp only [intOf]; omega⟩
            · have HF := Lib.hid (HNO.out (fun h => by
                have hh := HU.out x' y' |>.1 h
                simp only [beq_iff_eq, beq_eq_false_iff_ne, ne_eq] at b1 b2 b3 b4
                omega))
              go_wp2
              exact ⟨⟨j + 1, by omega, rfl, Below.trans HBEL.out (by repeat (first | exact Below.refl _ _ | refine Below.drew ?_ | refine Below.alloc ?_ (by first | exact Nat.le_refl _ | (simp; done) | (simp; omega) | omega) _ | refine Below.more ?_ (by first | exact Nat.le_refl _ | (simp; done) | (simp; omega) | omega) _ _ | refine Below.setCell ?_ (by first | exact Nat.le_refl _ | (simp; done) | (simp; omega) | omega) _ | assumption)), (by first | omega | (simp; omega)), (by first | omega | (simp; omega)), HZ, HPS.out.below (by repeat (first | exact Below.refl _ _ | refine Below.drew ?_ | refine Below.alloc ?_ (by first | exact Nat.le_refl _ | (simp; done) | (simp; omega) | omega) _ | refine Below.more ?_ (by first | exact Nat.le_refl _ | (simp; done) | (simp; omega) | omega) _ _ | refine Below.setCell ?_ (by first | exact Nat.le_refl _ | (simp; done) | (simp; omega) | omega) _ | assumption)), by rw [HF.out]; exact own_kept HOWN.out (by repeat (first | exact Below.refl _ _ | refine Below.drew ?_ | refine Below.alloc ?_ (by first | exact Nat.le_refl _ | (simp; done) | (simp; omega) | omega) _ | refine Below.more ?_ (by first | exact Nat.le_refl _ | (simp; done) | (simp; omega) | omega) _ _ | refine Below.setCell ?_ (by first | exact Nat.le_refl _ | (simp; done) | (simp; omega) | omega) _ | assumption))⟩, by simp only [intOf]; omega⟩
            · have HF := Lib.hid (HNO.out (fun h => by
                have hh := HU.out x' y' |>.1 h
                simp only [beq_iff_eq, beq_eq_false_iff_ne, ne_eq] at b1 b2 b3 b4
                omega))
              go_wp2
              exact ⟨⟨j + 1, by omega, rfl, Below.trans HBEL.out (by repeat (first | exact Below.refl _ _ | refine Below.drew ?_ | refine Below.alloc ?_ (by first | exact Nat.le_refl _ | (simp; done) | (simp; omega) | omega) _ | refine Below.more ?_ (by first | exact Nat.le_refl _ | (simp; done) | (simp; omega) | omega) _ _ | refine Below.setCell ?_ (by first | exact Nat.le_refl _ | (simp; done) | (simp; omega) | omega) _ | assumption)), (by first | omega | (simp; omega)), (by first | omega | (simp; omega)), HZ, HPS.out.below (by repeat (first | exact Below.refl _ _ | refine Below.drew ?_ | refine Below.alloc ?_ (by first | exact Nat.le_refl _ | (simp; done) | (simp; omega) | omega) _ | refine Below.more ?_ (by first | exact Nat.le_refl _ | (simp; done) | (simp; omega) | omega) _ _ | refine Below.setCell ?_ (by first | exact Nat.le_refl _ | (simp; done) | (simp; omega) | omega) _ | assumption)), by rw [HF.out]; exact own_kept HOWN.out (by repeat (first | exact Below.refl _ _ | refine Below.drew ?_ | refine Below.alloc ?_ (by first | exact Nat.le_refl _ | (simp; done) | (simp; omega) | omega) _ | refine Below.more ?_ (by first | exact Nat.le_refl _ | (simp; done) | (simp; omega) | omega) _ _ | refine Below.setCell ?_ (by first | exact Nat.le_refl _ | (simp; done) | (simp; omega) | omega) _ | assumption))⟩, by simp only [intOf]; omega⟩
            · have HF := Lib.hid (HYES.out ((HU.out x' y').2 (by
                simp only [beq_iff_eq, beq_eq_false_iff_ne, ne_eq] at b1 b2 b3 b4
                omega)))
              go_wp2_with (at_builtin; go_loud (refine wpList_append_intg _ rfl _ _ rfl (w.heap.size + 1) _ _ _ rfl (own_kept HOWN.out (by repeat (first | exact Below.refl _ _ | refine Below.drew ?_ | refine Below.alloc ?_ (by first | exact Nat.le_refl _ | (simp; done) | (simp; omega) | omega) _ | refine Below.more ?_ (by first | exact Nat.le_refl _ | (simp; done) | (simp; omega) | omega) _ _ | refine Below.setCell ?_ (by first | exact Nat.le_refl _ | (simp; done) | (simp; omega) | omega) _ | assumption))) _ 1 rfl (k : Int) ?c1 hl2 ?c2 ?_))
              case c1 => simp [go_sem]
              case c2 => first | omega | (simp; omega)
              intro v' w' hp' hg' hloc'
              have HP' := Lib.hid hp'
              have HB' := Lib.hid (Below.grown (Below.trans HBEL.out (show Below w.heap.size wr _ from (by repeat (first | exact Below.refl _ _ | refine Below.drew ?_ | refine Below.alloc ?_ (by first | exact Nat.le_refl _ | (simp; done) | (simp; omega) | omega) _ | refine Below.more ?_ (by first | exact Nat.le_refl _ | (simp; done) | (simp; omega) | omega) _ _ | refine Below.setCell ?_ (by first | exact Nat.le_refl _ | (simp; done) | (simp; omega) | omega) _ | assumption)))) hg' (by first | omega | (simp; omega)) (fun b hb => by have := (own_row HOWN.out b hb).1; omega))
              have HPS' := Lib.hid ((HPS.out.below (by repeat (first | exact Below.refl _ _ | refine Below.drew ?_ | refine Below.alloc ?_ (by first | exact Nat.le_refl _ | (simp; done) | (simp; omega) | omega) _ | refine Below.more ?_ (by first | exact Nat.le_refl _ | (simp; done) | (simp; omega) | omega) _ _ | refine Below.setCell ?_ (by first | exact Nat.le_refl _ | (simp; done) | (simp; omega) | omega) _ | assumption))).grown hg' (fun b hb => HZ.out b hb))
              have hsz' : hi ≤ w'.heap.size := Nat.le_trans (by first | omega | (simp; omega)) hg'.size
              have hws' : w.heap.size + 1 ≤ w'.heap.size := Nat.le_trans (by first | omega | (simp; omega)) hg'.size
              have HZ' : Hid (∀ g, v'.ownBlock = some g → g < lo ∨ hi ≤ g) := Lib.hid (fun g hgv => by
                rcases hloc' with h | h
                · exact HZ.out g (h ▸ hgv)
                · rw [h] at hgv
                  simp only [Option.some.injEq] at hgv
                  subst hgv
                  first | (right; omega) | (right; simp; omega))
              clear hp' hg' hloc'
              go_wp2
              refine ⟨⟨j + 1, by omega, rfl, HB'.out, hsz', hws', HZ', HPS'.out, ?_⟩, by simp only [intOf]; omega⟩
              rw [HF.out, List.length_append, List.length_singleton, List.map_append]
              exact HP'.out
            · have HF := Lib.hid (HNO.out (fun h => by
                have hh := HU.out x' y' |>.1 h
                simp only [beq_iff_eq, beq_eq_false_iff_ne, ne_eq] at b1 b2 b3 b4
                omega))
              go_wp2
              exact ⟨⟨j + 1, by omega, rfl, Below.trans HBEL.out (by repeat (first | exact Below.refl _ _ | refine Below.drew ?_ | refine Below.alloc ?_ (by first | exact Nat.le_refl _ | (simp; done) | (simp; omega) | omega) _ | refine Below.more ?_ (by first | exact Nat.le_refl _ | (simp; done) | (simp; omega) | omega) _ _ | refine Below.setCell ?_ (by first | exact Nat.le_refl _ | (simp; done) | (simp; omega) | omega) _ | assumption)), (by first | omega | (simp; omega)), (by first | omega | (simp; omega)), HZ, HPS.out.below (by repeat (first | exact Below.refl _ _ | refine Below.drew ?_ | refine Below.alloc ?_ (by first | exact Nat.le_refl _ | (simp; done) | (simp; omega) | omega) _ | refine Below.more ?_ (by first | exact Nat.le_refl _ | (simp; done) | (simp; omega) | omega) _ _ | refine Below.setCell ?_ (by first | exact Nat.le_refl _ | (simp; done) | (simp; omega) | omega) _ | assumption)), by rw [HF.out]; exact own_kept HOWN.out (by repeat (first | exact Below.refl _ _ | refine Below.drew ?_ | refine Below.alloc ?_ (by first | exact Nat.le_refl _ | (simp; done) | (simp; omega) | omega) _ | refine Below.more ?_ (by first | exact Nat.le_refl _ | (simp; done) | (simp; omega) | omega) _ _ | refine Below.setCell ?_ (by first | exact Nat.le_refl _ | (simp; done) | (simp; omega) | omega) _ | assumption))⟩, by simp only [intOf]; omega⟩
            · have HF := Lib.hid (HNO.out (fun h => by
                have hh := HU.out x' y' |>.1 h
                simp only [beq_iff_eq, beq_eq_false_iff_ne, ne_eq] at b1 b2 b3 b4
                omega))
              go_wp2
              exact ⟨⟨j + 1, by omega, rfl, Below.trans HBEL.out (by repeat (first | exact Below.refl _ _ | refine Below.drew ?_ | refine Below.alloc ?_ (by first | exact Nat.le_refl _ | (simp; done) | (simp; omega) | omega) _ | refine Below.more ?_ (by first | exact Nat.le_refl _ | (simp; done) | (simp; omega) | omega) _ _ | refine Below.setCell ?_ (by first | exact Nat.le_refl _ | (simp; done) | (simp; omega) | omega) _ | assumption)), (by first | omega | (simp; omega)), (by first | omega | (simp; omega)), HZ, HPS.out.below (by repeat (first | exact Below.refl _ _ | refine Below.drew ?_ | refine Below.alloc ?_ (by first | exact Nat.le_refl _ | (simp; done) | (simp; omega) | omega) _ | refine Below.more ?_ (by first | exact Nat.le_refl _ | (simp; done) | (simp; omega) | omega) _ _ | refine Below.setCell ?_ (by first | exact Nat.le_refl _ | (simp; done) | (simp; omega) | omega) _ | assumption)), by rw [HF.out]; exact own_kept HOWN.out (by repeat (first | exact Below.refl _ _ | refine Below.drew ?_ | refine Below.alloc ?_ (by first | exact Nat.le_refl _ | (simp; done) | (simp; omega) | omega) _ | refine Below.more ?_ (by first | exact Nat.le_refl _ | (simp; done) | (simp; omega) | omega) _ _ | refine Below.setCell ?_ (by first | exact Nat.le_refl _ | (simp; done) | (simp; omega) | omega) _ | assumption))⟩, by simp only [intOf]; omega⟩
            · have HF := Lib.hid (HNO.out (fun h => by
                have hh := HU.out x' y' |>.1 h
                simp only [beq_iff_eq, beq_eq_false_iff_ne, ne_eq] at b1 b2 b3 b4
                omega))
              go_wp2
              exact ⟨⟨j + 1, by omega, rfl, Below.trans HBEL.out (by repeat (first | exact Below.refl _ _ | refine Below.drew ?_ | refine Below.alloc ?_ (by first | exact Nat.le_refl _ | (simp; done) | (simp; omega) | omega) _ | refine Below.more ?_ (by first | exact Nat.le_refl _ | (simp; done) | (simp; omega) | omega) _ _ | refine Below.setCell ?_ (by first | exact Nat.le_refl _ | (simp; done) | (simp; omega) | omega) _ | assumption)), (by first | omega | (simp; omega)), (by first | omega | (simp; omega)), HZ, HPS.out.below (by repeat (first | exact Below.refl _ _ | refine Below.drew ?_ | refine Below.alloc ?_ (by first | exact Nat.le_refl _ | (simp; done) | (simp; omega) | omega) _ | refine Below.more ?_ (by first | exact Nat.le_refl _ | (simp; done) | (simp; omega) | omega) _ _ | refine Below.setCell ?_ (by first | exact Nat.le_refl _ | (simp; done) | (simp; omega) | omega) _ | assumption)), by rw [HF.out]; exact own_kept HOWN.out (by repeat (first | exact Below.refl _ _ | refine Below.drew ?_ | refine Below.alloc ?_ (by first | exact Nat.le_refl _ | (simp; done) | (simp; omega) | omega) _ | refine Below.more ?_ (by first | exact Nat.le_refl _ | (simp; done) | (simp; omega) | omega) _ _ | refine Below.setCell ?_ (by first | exact Nat.le_refl _ | (simp; done) | (simp; omega) | omega) _ | assumption))⟩, by simp only [intOf]; omega⟩
            · have HF := Lib.hid (HYES.out ((HU.out x' y').2 (by
                simp only [beq_iff_eq, beq_eq_false_iff_ne, ne_eq] at b1 b2 b3 b4
                omega)))
              go_wp2_with (at_builtin; go_loud (refine wpList_append_intg _ rfl _ _ rfl (w.heap.size + 1) _ _ _ rfl (own_kept HOWN.out (by repeat (first | exact Below.refl _ _ | refine Below.drew ?_ | refine Below.alloc ?_ (by first | exact Nat.le_refl _ | (simp; done) | (simp; omega) | omega) _ | refine Below.more ?_ (by first | exact Nat.le_refl _ | (simp; done) | (simp; omega) | omega) _ _ | refine Below.setCell ?_ (by first | exact Nat.le_refl _ | (simp; done) | (simp; omega) | omega) _ | assumption))) _ 1 rfl (k : Int) ?c1 hl2 ?c2 ?_))
              case c1 => simp [go_sem]
              case c2 => first | omega | (simp; omega)
              intro v' w' hp' hg' hloc'
              have HP' := Lib.hid hp'
              have HB' := Lib.hid (Below.grown (Below.trans HBEL.out (show Below w.heap.size wr _ from (by repeat (first | exact Below.refl _ _ | refine Below.drew ?_ | refine Below.alloc ?_ (by first | exact Nat.le_refl _ | (simp; done) | (simp; omega) | omega) _ | refine Below.more ?_ (by first | exact Nat.le_refl _ | (simp; done) | (simp; omega) | omega) _ _ | refine Below.setCell ?_ (by first | exact Nat.le_refl _ | (simp; done) | (simp; omega) | omega) _ | assumption)))) hg' (by first | omega | (simp; omega)) (fun b hb => by have := (own_row HOWN.out b hb).1; omega))
              have HPS' := Lib.hid ((HPS.out.below (by repeat (first | exact Below.refl _ _ | refine Below.drew ?_ | refine Below.alloc ?_ (by first | exact Nat.le_refl _ | (simp; done) | (simp; omega) | omega) _ | refine Below.more ?_ (by first | exact Nat.le_refl _ | (simp; done) | (simp; omega) | omega) _ _ | refine Below.setCell ?_ (by first | exact Nat.le_refl _ | (simp; done) | (simp; omega) | omega) _ | assumption))).grown hg' (fun b hb => HZ.out b hb))
              have hsz' : hi ≤ w'.heap.size := Nat.le_trans (by first | omega | (simp; omega)) hg'.size
              have hws' : w.heap.size + 1 ≤ w'.heap.size := Nat.le_trans (by first | omega | (simp; omega)) hg'.size
              have HZ' : Hid (∀ g, v'.ownBlock = some g → g < lo ∨ hi ≤ g) := Lib.hid (fun g hgv => by
                rcases hloc' with h | h
                · exact HZ.out g (h ▸ hgv)
                · rw [h] at hgv
                  simp only [Option.some.injEq] at hgv
                  subst hgv
                  first | (right; omega) | (right; simp; omega))
              clear hp' hg' hloc'
              go_wp2
              refine ⟨⟨j + 1, by omega, rfl, HB'.out, hsz', hws', HZ', HPS'.out, ?_⟩, by simp only [intOf]; omega⟩
              rw [HF.out, List.length_append, List.length_singleton, List.map_append]
              exact HP'.out
            · have HF := Lib.hid (HYES.out ((HU.out x' y').2 (by
                simp only [beq_iff_eq, beq_eq_false_iff_ne, ne_eq] at b1 b2 b3 b4
                omega)))
              go_wp2_with (at_builtin; go_loud (refine wpList_append_intg _ rfl _ _ rfl (w.heap.size + 1) _ _ _ rfl (own_kept HOWN.out (by repeat (first | exact Below.refl _ _ | refine Below.drew ?_ | refine Below.alloc ?_ (by first | exact Nat.le_refl _ | (simp; done) | (simp; omega) | omega) _ | refine Below.more ?_ (by first | exact Nat.le_refl _ | (simp; done) | (simp; omega) | omega) _ _ | refine Below.setCell ?_ (by first | exact Nat.le_refl _ | (simp; done) | (simp; omega) | omega) _ | assumption))) _ 1 rfl (k : Int) ?c1 hl2 ?c2 ?_))
              case c1 => simp [go_sem]
              case c2 => first | omega | (simp; omega)
              intro v' w' hp' hg' hloc'
              have HP' := Lib.hid hp'
              have HB' := Lib.hid (Below.grown (Below.trans HBEL.out (show Below w.heap.size wr _ from (by repeat (first | exact Below.refl _ _ | refine Below.drew ?_ | refine Below.alloc ?_ (by first | exact Nat.le_refl _ | (simp; done) | (simp; omega) | omega) _ | refine Below.more ?_ (by first | exact Nat.le_refl _ | (simp; done) | (simp; omega) | omega) _ _ | refine Below.setCell ?_ (by first | exact Nat.le_refl _ | (simp; done) | (simp; omega) | omega) _ | assumption)))) hg' (by first | omega | (simp; omega)) (fun b hb => by have := (own_row HOWN.out b hb).1; omega))
              have HPS' := Lib.hid ((HPS.out.below (by repeat (first | exact Below.refl _ _ | refine Below.drew ?_ | refine Below.alloc ?_ (by first | exact Nat.le_refl _ | (simp; done) | (simp; omega) | omega) _ | refine Below.more ?_ (by first | exact Nat.le_refl _ | (simp; done) | (simp; omega) | omega) _ _ | refine Below.setCell ?_ (by first | exact Nat.le_refl _ | (simp; done) | (simp; omega) | omega) _ | assumption))).grown hg' (fun b hb => HZ.out b hb))
              have hsz' : hi ≤ w'.heap.size := Nat.le_trans (by first | omega | (simp; omega)) hg'.size
              have hws' : w.heap.size + 1 ≤ w'.heap.size := Nat.le_trans (by first | omega | (simp; omega)) hg'.size
              have HZ' : Hid (∀ g, v'.ownBlock = some g → g < lo ∨ hi ≤ g) := Lib.hid (fun g hgv => by
                rcases hloc' with h | h
                · exact HZ.out g (h ▸ hgv)
                · rw [h] at hgv
                  simp only [Option.some.injEq] at hgv
                  subst hgv
                  first | (right; omega) | (right; simp; omega))
              clear hp' hg' hloc'
              go_wp2
              refine ⟨⟨j + 1, by omega, rfl, HB'.out, hsz', hws', HZ', HPS'.out, ?_⟩, by simp only [intOf]; omega⟩
              rw [HF.out, List.length_append, List.length_singleton, List.map_append]
              exact HP'.out
            · have HF := Lib.hid (HYES.out ((HU.out x' y').2 (by
                simp only [beq_iff_eq, beq_eq_false_iff_ne, ne_eq] at b1 b2 b3 b4
                omega)))
              go_wp2_with (at_builtin; go_loud (refine wpList_append_intg _ rfl _ _ rfl (w.heap.size + 1) _ _ _ rfl (own_kept HOWN.out (by repeat (first | exact Below.refl _ _ | refine Below.drew ?_ | refine Below.alloc ?_ (by first | exact Nat.le_refl _ | (simp; done) | (simp; omega) | omega) _ | refine Below.more ?_ (by first | exact Nat.le_refl _ | (simp; done) | (simp; omega) | omega) _ _ | refine Below.setCell ?_ (by first | exact Nat.le_refl _ | (simp; done) | (simp; omega) | omega) _ | assumption))) _ 1 rfl (k : Int) ?c1 hl2 ?c2 ?_))
              case c1 => simp [go_sem]
              case c2 => first | omega | (simp; omega)
              intro v' w' hp' hg' hloc'
              have HP' := Lib.hid hp'
              have HB' := Lib.hid (Below.grown (Below.trans HBEL.out (show Below w.heap.size wr _ from (by repeat (first | exact Below.refl _ _ | refine Below.drew ?_ | refine Below.alloc ?_ (by first | exact Nat.le_refl _ | (simp; done) | (simp; omega) | omega) _ | refine Below.more ?_ (by first | exact Nat.le_refl _ | (simp; done) | (simp; omega) | omega) _ _ | refine Below.setCell ?_ (by first | exact Nat.le_refl _ | (simp; done) | (simp; omega) | omega) _ | assumption)))) hg' (by first | omega | (simp; omega)) (fun b hb => by have := (own_row HOWN.out b hb).1; omega))
              have HPS' := Lib.hid ((HPS.out.below (by repeat (first | exact Below.refl _ _ | refine Below.drew ?_ | refine Below.alloc ?_ (by first | exact Nat.le_refl _ | (simp; done) | (simp; omega) | omega) _ | refine Below.more ?_ (by first | exact Nat.le_refl _ | (simp; done) | (simp; omega) | omega) _ _ | refine Below.setCell ?_ (by first | exact Nat.le_refl _ | (simp; done) | (simp; omega) | omega) _ | assumption))).grown hg' (fun b hb => HZ.out b hb))
              have hsz' : hi ≤ w'.heap.size := Nat.le_trans (by first | omega | (simp; omega)) hg'.size
              have hws' : w.heap.size + 1 ≤ w'.heap.size := Nat.le_trans (by first | omega | (simp; omega)) hg'.size
              have HZ' : Hid (∀ g, v'.ownBlock = some g → g < lo ∨ hi ≤ g) := Lib.hid (fun g hgv => by
                rcases hloc' with h | h
                · exact HZ.out g (h ▸ hgv)
                · rw [h] at hgv
                  simp only [Option.some.injEq] at hgv
                  subst hgv
                  first | (right; omega) | (right; simp; omega))
              clear hp' hg' hloc'
              go_wp2
              refine ⟨⟨j + 1, by omega, rfl, HB'.out, hsz', hws', HZ', HPS'.out, ?_⟩, by simp only [intOf]; omega⟩
              rw [HF.out, List.length_append, List.length_singleton, List.map_append]
              exact HP'.out
            · have HF := Lib.hid (HYES.out ((HU.out x' y').2 (by
                simp only [beq_iff_eq, beq_eq_false_iff_ne, ne_eq] at b1 b2 b3 b4
                omega)))
              go_wp2_with (at_builtin; go_loud (refine wpList_append_intg _ rfl _ _ rfl (w.heap.size + 1) _ _ _ rfl (own_kept HOWN.out (by repeat (first | exact Below.refl _ _ | refine Below.drew ?_ | refine Below.alloc ?_ (by first | exact Nat.le_refl _ | (simp; done) | (simp; omega) | omega) _ | refine Below.more ?_ (by first | exact Nat.le_refl _ | (simp; done) | (simp; omega) | omega) _ _ | refine Below.setCell ?_ (by first | exact Nat.le_refl _ | (simp; done) | (simp; omega) | omega) _ | assumption))) _ 1 rfl (k : Int) ?c1 hl2 ?c2 ?_))
              case c1 => simp [go_sem]
              case c2 => first | omega | (simp; omega)
              intro v' w' hp' hg' hloc'
              have HP' := Lib.hid hp'
              have HB' := Lib.hid (Below.grown (Below.trans HBEL.out (show Below w.heap.size wr _ from (by repeat (first | exact Below.refl _ _ | refine Below.drew ?_ | refine Below.alloc ?_ (by first | exact Nat.le_refl _ | (simp; done) | (simp; omega) | omega) _ | refine Below.more ?_ (by first | exact Nat.le_refl _ | (simp; done) | (simp; omega) | omega) _ _ | refine Below.setCell ?_ (by first | exact Nat.le_refl _ | (simp; done) | (simp; omega) | omega) _ | assumption)))) hg' (by first | omega | (simp; omega)) (fun b hb => by have := (own_row HOWN.out b hb).1; omega))
              have HPS' := Lib.hid ((HPS.out.below (by repeat (first | exact Below.refl _ _ | refine Below.drew ?_ | refine Below.alloc ?_ (by first | exact Nat.le_refl _ | (simp; done) | (simp; omega) | omega) _ | refine Below.more ?_ (by first | exact Nat.le_refl _ | (simp; done) | (simp; omega) | omega) _ _ | refine Below.setCell ?_ (by first | exact Nat.le_refl _ | (simp; done) | (simp; omega) | omega) _ | assumption))).grown hg' (fun b hb => HZ.out b hb))
              have hsz' : hi ≤ w'.heap.size := Nat.le_trans (by first | omega | (simp; omega)) hg'.size
              have hws' : w.heap.size + 1 ≤ w'.heap.size := Nat.le_trans (by first | omega | (simp; omega)) hg'.size
              have HZ' : Hid (∀ g, v'.ownBlock = some g → g < lo ∨ hi ≤ g) := Lib.hid (fun g hgv => by
                rcases hloc' with h | h
                · exact HZ.out g (h ▸ hgv)
                · rw [h] at hgv
                  simp only [Option.some.injEq] at hgv
                  subst hgv
                  first | (right; omega) | (right; simp; omega))
              clear hp' hg' hloc'
              go_wp2
              refine ⟨⟨j + 1, by omega, rfl, HB'.out, hsz', hws', HZ', HPS'.out, ?_⟩, by simp only [intOf]; omega⟩
              rw [HF.out, List.length_append, List.length_singleton, List.map_append]
              exact HP'.out
            · have HF := Lib.hid (HYES.out ((HU.out x' y').2 (by
                simp only [beq_iff_eq, beq_eq_false_iff_ne, ne_eq] at b1 b2 b3 b4
                omega)))
              go_wp2_with (at_builtin; go_loud (refine wpList_append_intg _ rfl _ _ rfl (w.heap.size + 1) _ _ _ rfl (own_kept HOWN.out (by repeat (first | exact Below.refl _ _ | refine Below.drew ?_ | refine Below.alloc ?_ (by first | exact Nat.le_refl _ | (simp; done) | (simp; omega) | omega) _ | refine Below.more ?_ (by first | exact Nat.le_refl _ | (simp; done) | (simp; omega) | omega) _ _ | refine Below.setCell ?_ (by first | exact Nat.le_refl _ | (simp; done) | (simp; omega) | omega) _ | assumption))) _ 1 rfl (k : Int) ?c1 hl2 ?c2 ?_))
              case c1 => simp [go_sem]
              case c2 => first | omega | (simp; omega)
              intro v' w' hp' hg' hloc'
              have HP' := Lib.hid hp'
              have HB' := Lib.hid (Below.grown (Below.trans HBEL.out (show Below w.heap.size wr _ from (by repeat (first | exact Below.refl _ _ | refine Below.drew ?_ | refine Below.alloc ?_ (by first | exact Nat.le_refl _ | (simp; done) | (simp; omega) | omega) _ | refine Below.more ?_ (by first | exact Nat.le_refl _ | (simp; done) | (simp; omega) | omega) _ _ | refine Below.setCell ?_ (by first | exact Nat.le_refl _ | (simp; done) | (simp; omega) | omega) _ | assumption)))) hg' (by first | omega | (simp; omega)) (fun b hb => by have := (own_row HOWN.out b hb).1; omega))
              have HPS' := Lib.hid ((HPS.out.below (by repeat (first | exact Below.refl _ _ | refine Below.drew ?_ | refine Below.alloc ?_ (by first | exact Nat.le_refl _ | (simp; done) | (simp; omega) | omega) _ | refine Below.more ?_ (by first | exact Nat.le_refl _ | (simp; done) | (simp; omega) | omega) _ _ | refine Below.setCell ?_ (by first | exact Nat.le_refl _ | (simp; done) | (simp; omega) | omega) _ | assumption))).grown hg' (fun b hb => HZ.out b hb))
              have hsz' : hi ≤ w'.heap.size := Nat.le_trans (by first | omega | (simp; omega)) hg'.size
              have hws' : w.heap.size + 1 ≤ w'.heap.size := Nat.le_trans (by first | omega | (simp; omega)) hg'.size
              have HZ' : Hid (∀ g, v'.ownBlock = some g → g < lo ∨ hi ≤ g) := Lib.hid (fun g hgv => by
                rcases hloc' with h | h
                · exact HZ.out g (h ▸ hgv)
                · rw [h] at hgv
                  simp only [Option.some.injEq] at hgv
                  subst hgv
                  first | (right; omega) | (right; simp; omega))
              clear hp' hg' hloc'
              go_wp2
              refine ⟨⟨j + 1, by omega, rfl, HB'.out, hsz', hws', HZ', HPS'.out, ?_⟩, by simp only [intOf]; omega⟩
              rw [HF.out, List.length_append, List.length_singleton, List.map_append]
              exact HP'.out
          · have hj1 : ¬ (j : Int) < 4 := by omega
            obtain rfl : j = 4 := by omega
            have HE4 := Lib.hid (show L0 ++ stepHits f k e0 4 = hitsTo s e0 (k + 1) from HSU.out.symm)
            go_wp2
            refine ⟨⟨k + 1, by omega, rfl, HBEL.out, hws, by rw [← HE4.out]; exact HOWN.out⟩, by simp only [intOf]; omega⟩
      · have hk1 : ¬ (k : Int) < (m : Int) := by omega
        obtain rfl : k = m := by omega
        have HOWN2 := Lib.hid (HE.out ▸ HOWN.out)
        go_wp2
        go_ret
        exact gives_ints HOWN2.out HBEL.out (Nat.le_succ _)
end Go.Proofs.YtpfmcobkfofbjaaGreat
