/- Contract of impl.edgeTable. (Not whole.) -/
import Derived.Test.YtpfmcobkfofbjaaGroups
import Derived.Test.YtpfmcobkfofbjaaValidMesh
import Derived.Deep.RegionHeld3
namespace Go.Proofs.Ytpfmcobkfofbjaa
open Go Go.RowKit Go.Maps
set_option linter.unusedVariables false
theorem cell_gr {w w' : World} {row : Option Nat} {b o : Nat} {v : Value} (h : w.grownBy w' row) (hne : row ≠ some b) (c : w.cell? ⟨b, o, none⟩ = some v) : w'.cell? ⟨b, o, none⟩ = some v :=
  (World.cell?_of_block (h.block b (World.block_lt_of_cell? _ _ c) (fun e => hne e.symm))).trans c
/-- No row is the map. -/
theorem Groups.ne_map {w : World} {base b n : Nat} {ks : List (Int × Int)} {F : Int × Int → Value} {G : Int × Int → List Int} (h : Groups w base b n ks F G) (p : Int × Int) : some b ≠ (F p).ownBlock := fun e => by
  obtain ⟨_, c, fz, hc⟩ := own_row (h.own p) b e.symm
  obtain ⟨es, ck, hmm⟩ := h.m.isMap
  rw [hmm] at hc; cases hc
theorem Groups.ne_cells {w : World} {base b n : Nat} {ks : List (Int × Int)} {F : Int × Int → Value} {G : Int × Int → List Int} (h : Groups w base b n ks F G) {g : Nat} {cs : Array Value} {e : TypeId} {fz : Nat × Nat} (hc : w.heap[g]? = some (.cells cs e fz)) : g ≠ b := fun e => by
  obtain ⟨es, ck, hmm⟩ := h.m.isMap
  rw [e, hmm] at hc; cases hc
/-- What the round's region reads. -/
@[reducible] def EdS (E : Nat) (x y : Int) (w' : World) : Prop := w'.cell? ⟨E, 0, none⟩ = some (.int .i64 x) ∧ w'.cell? ⟨E, 1, none⟩ = some (.int .i64 y)
theorem und_s (W0 : World) (E : Nat) (x y : Int) (w' : World) (h : EdS E x y w') (hw : Below W0.heap.size W0 w') :
    Calls Try.prog 25 #[.agg #[.int .i64 x, .int .i64 y]] w' fun e w2 => e = .returned (edgeV (und (x, y))) ∧ EdS E x y w2 ∧ Below W0.heap.size W0 w2 ∧ Below w'.heap.size w' w2 :=
  (und_c x y w').mono fun _ _ ⟨he, hb⟩ => ⟨he, ⟨cell_below hb h.1, cell_below hb h.2⟩, hw.trans (hb.mono hw.size), hb⟩
set_option maxRecDepth 100000 in
set_option maxHeartbeats 4000000 in
theorem edgeTable_c (v : Value) (p : MeshD) (w : World) (hr : MeshR w v p) (hs : MeshSz 1048576 p) (hok : meshOk p) :
    Calls Try.prog 20 #[v] w fun e w' => ∃ b F, e = .returned (.map (some b)) ∧ Groups w' (w.heap.size + 1) b (4 * p.nF) (keysTo p.faces p.nF) F (fun e => hitsTo p.faces e p.nF) ∧ w.heap.size < b ∧ Below w.heap.size w w' := by
  have HFO := Lib.hid hok.2.2.2.1
  have hm64 := hok.2.1
  have hn80 := hok.1
  obtain ⟨a, c, a', c', rfl, _, ⟨A, K, h2, h3, h4⟩⟩ := hr
  clear h4 hs hok
  generalize p.nV = n at *
  generalize p.nF = m at *
  generalize p.faces = s at *
  have HF := Lib.hid h2
  have HQ := Lib.hid h3
  clear h2 h3
  obtain ⟨i0, hi, hz0, hz1, hz2⟩ := info_parts info_IntA
  have hmm := @run_makeMap Try.prog
  go_enter Try.func20, Try.ntmps20
  go_wp2
  go_loopw [12] (fun i wr => ∃ (k : Nat) (F : Int × Int → Value), k ≤ m ∧ i = .int .i64 k ∧ Groups wr (w.heap.size + 1) (w.heap.size + 1) (4 * k) (keysTo s k) F (fun e => hitsTo s e k) ∧ Below w.heap.size w wr) (fun i _ => m - (intOf i).toNat)
  case atStart =>
    refine ⟨0, fun _ => .slice none 0 0, by omega, rfl, ?_, (by repeat (first | exact Below.refl _ _ | refine Below.drew ?_ | refine Below.alloc ?_ (by first | exact Nat.le_refl _ | (simp; done) | (simp; omega) | omega) _ | refine Below.more ?_ (by first | exact Nat.le_refl _ | (simp; done) | (simp; omega) | omega) _ _ | refine Below.setCell ?_ (by first | exact Nat.le_refl _ | (simp; done) | (simp; omega) | omega) _ | assumption))⟩
    have h := Groups.made (w.alloc (.cells #[.slice a n c, .slice a' m c'] 26)) (w.heap.size + 1)
    rw [World.size_alloc] at h
    exact h
  case round =>
    obtain ⟨k, F, hk, rfl, hg, hbel⟩ := hrel
    have HG := Lib.hid hg
    have HBEL := Lib.hid hbel
    have y1 : w.heap.size + 1 < wr.heap.size := hg.m.lt
    clear hg hbel
    by_cases hlt : k < m
    · have hk1 : (k : Int) < (m : Int) := by omega
      obtain ⟨b, o, e, hb, hc⟩ := HF.out.below HBEL.out (by omega)
      subst e
      have c0 : wr.cell? ⟨b, o + k, none⟩ = some (.slice (A k) (faceAt s k).length (K k)) := by have := hc k hlt 0 (by omega); rw [Nat.mul_one, Nat.add_zero] at this; exact this
      clear hc
      have hsl : Sl wr (A k) 1 (faceAt s k).length (intAt (faceAt s k)) := (HQ.out k hlt).below HBEL.out
      have HOKF := Lib.hid (HFO.out k hlt)
      have HS0 := Lib.hid (fun e => hitsTo_succ s e k)
      have HKS := Lib.hid (keysTo_succ s k)
      have hq := HOKF.out.1
      generalize A k = ak at *
      generalize K k = kk at *
      generalize faceAt s k = f at *
      rw [hq] at c0 hsl
      have HQL := Lib.hid hq
      have HSL := Lib.hid hsl
      clear hsl hq
      generalize hks0 : keysTo s k = ks0 at *
      clear hks0
      obtain ⟨G0, hG0⟩ : ∃ G0, G0 = fun e => hitsTo s e k := ⟨_, rfl⟩
      have HG := Lib.hid (hG0 ▸ HG.out)
      have HSU := Lib.hid (show ∀ e, hitsTo s e (k + 1) = G0 e ++ stepHits f k e 4 from fun e => by rw [hG0]; exact HS0.out e)
      have HLN := Lib.hid (show ∀ e, (G0 e).length ≤ 4 * k from fun e => by rw [hG0]; exact hitsTo_len s e k)
      clear hG0
      go_wp2_with (go_at_call 31; refine (faceEdges_c _ _ f HQL _ (HSL.out.below (by repeat (first | exact Below.refl _ _ | refine Below.drew ?_ | refine Below.alloc ?_ (by first | exact Nat.le_refl _ | (simp; done) | (simp; omega) | omega) _ | refine Below.more ?_ (by first | exact Nat.le_refl _ | (simp; done) | (simp; omega) | omega) _ _ | refine Below.setCell ?_ (by first | exact Nat.le_refl _ | (simp; done) | (simp; omega) | omega) _ | assumption)))).mono ?_; rintro e wn ⟨ae, ce, rfl, ho, hbn⟩; have HO := Lib.hid ho; have HBN := Lib.hid hbn; clear ho hbn)
      obtain ⟨ge, arr, eT, hae, hlo, hhi, hge, hl, hx⟩ := HO.out (by omega)
      subst hae
      have HX := Lib.hid hx
      have HGE := Lib.hid hge
      have HB0 := Lib.hid ((Below.trans HBEL.out (show Below w.heap.size wr wr from (by repeat (first | exact Below.refl _ _ | refine Below.drew ?_ | refine Below.alloc ?_ (by first | exact Nat.le_refl _ | (simp; done) | (simp; omega) | omega) _ | refine Below.more ?_ (by first | exact Nat.le_refl _ | (simp; done) | (simp; omega) | omega) _ _ | refine Below.setCell ?_ (by first | exact Nat.le_refl _ | (simp; done) | (simp; omega) | omega) _ | assumption)))).trans (HBN.out.mono (show w.heap.size ≤ wr.heap.size by omega)))
      have HG1 := Lib.hid (HG.out.kept HBN.out)
      have HNE := Lib.hid (show ∀ p g, (F p).ownBlock = some g → g ≠ ge from fun p g hp e => by
        obtain ⟨_, c2, fz2, hc2⟩ := own_row (HG.out.own p) g hp
        have := (Array.getElem?_eq_some_iff.1 hc2).1
        omega)
      clear HO HBN HG HBEL y1 hge hx hlo hhi hl
      go_loopw [20] (fun i wr => ∃ (j : Nat) (F : Int × Int → Value), j ≤ 4 ∧ i = .int .i64 j ∧ Groups wr (w.heap.size + 1) (w.heap.size + 1) (4 * k + j) (stepKeys f ks0 j) F (fun e => G0 e ++ stepHits f k e j) ∧ Hid (∀ p g, (F p).ownBlock = some g → g ≠ ge) ∧ wr.heap[ge]? = some (.cells ⟨arr⟩ eT (0, 0)) ∧ Below w.heap.size w wr) (fun i _ => 4 - (intOf i).toNat)
      case atStart =>
        refine ⟨0, F, by omega, rfl, ?_, HNE, HGE.out, HB0.out⟩
        have h := HG1.out
        have e : (fun e => G0 e ++ stepHits f k e 0) = G0 := by funext e; simp [stepHits]
        rw [e]
        exact h
      case round =>
        clear HG1 HNE HGE HB0
        obtain ⟨j, F, hj, rfl, hg, HNE, hge, hbel⟩ := hrel
        have HG := Lib.hid hg
        have HGE := Lib.hid hge
        have HBEL := Lib.hid hbel
        have y1 : w.heap.size + 1 < wr.heap.size := hg.m.lt
        have y2 : ge < wr.heap.size := (Array.getElem?_eq_some_iff.1 hge).1
        clear hg hge hbel
        by_cases hjl : j < 4
        · have hj1 : (j : Int) < 4 := by omega
          have hgd : (stepsOf f).getD j (0, 0) = stepAt f j := by
            rw [List.getD_eq_getElem?_getD, stepsOf, stepsTo, HQL.out, List.getElem?_map, List.getElem?_range hjl]; rfl
          have d0 : wr.cell? ⟨ge, j * 2, none⟩ = some (.int .i64 (stepAt f j).1) := by rw [cell_of_row _ _ _ _ _ (0, 0) HGE.out, ← hgd]; simpa [edgeAt] using HX.out j hjl 0 (by omega)
          have d1 : wr.cell? ⟨ge, j * 2 + 1, none⟩ = some (.int .i64 (stepAt f j).2) := by rw [cell_of_row _ _ _ _ _ (0, 0) HGE.out, ← hgd]; simpa [edgeAt] using HX.out j hjl 1 (by omega)
          clear hgd
          have hwf := wfE_step HOKF.out (by omega) hjl
          have HSS := Lib.hid (fun e => stepHits_succ f k e j)
          have HSK := Lib.hid (stepKeys_succ f ks0 j)
          generalize stepAt f j = pr at *
          obtain ⟨x, y⟩ := pr
          dsimp only at d0 d1
          have hwu : wfE (und (x, y)) := by
            obtain ⟨h1, h2⟩ := hwf
            unfold und wfE
            simp only [Int.min_def, Int.max_def] at *
            split <;> exact ⟨by assumption, by assumption⟩
          go_wp2
          have q1 : (wr.alloc (.cells #[.int .i64 x, .int .i64 y] 55)).cell? ⟨wr.heap.size, 0, none⟩ = some (.int .i64 x) := by simp [go_sem]
          have q2 : (wr.alloc (.cells #[.int .i64 x, .int .i64 y] 55)).cell? ⟨wr.heap.size, 1, none⟩ = some (.int .i64 y) := by simp [go_sem]
          have HG2 := Lib.hid (HG.out.kept (show Below wr.heap.size wr (wr.alloc (.cells #[.int .i64 x, .int .i64 y] 55)) from (by repeat (first | exact Below.refl _ _ | refine Below.drew ?_ | refine Below.alloc ?_ (by first | exact Nat.le_refl _ | (simp; done) | (simp; omega) | omega) _ | refine Below.more ?_ (by first | exact Nat.le_refl _ | (simp; done) | (simp; omega) | omega) _ _ | refine Below.setCell ?_ (by first | exact Nat.le_refl _ | (simp; done) | (simp; omega) | omega) _ | assumption))))
          have HB2 := Lib.hid (Below.trans HBEL.out (show Below w.heap.size wr (wr.alloc (.cells #[.int .i64 x, .int .i64 y] 55)) from (by repeat (first | exact Below.refl _ _ | refine Below.drew ?_ | refine Below.alloc ?_ (by first | exact Nat.le_refl _ | (simp; done) | (simp; omega) | omega) _ | refine Below.more ?_ (by first | exact Nat.le_refl _ | (simp; done) | (simp; omega) | omega) _ _ | refine Below.setCell ?_ (by first | exact Nat.le_refl _ | (simp; done) | (simp; omega) | omega) _ | assumption))))
          have HGE2 := Lib.hid ((heap_alloc_old wr (.cells #[.int .i64 x, .int .i64 y] 55) y2).trans HGE.out)
          have HRE := Lib.hid (show ∀ p g, (F p).ownBlock = some g → w.heap.size + 1 ≤ g ∧ g < wr.heap.size from fun p g hp => by
            obtain ⟨h1, c2, fz2, hc2⟩ := own_row (HG.out.own p) g hp
            exact ⟨h1, (Array.getElem?_eq_some_iff.1 hc2).1⟩)
          have hsE : (wr.alloc (.cells #[.int .i64 x, .int .i64 y] 55)).heap.size = wr.heap.size + 1 := World.size_alloc _ _
          obtain ⟨E, hE⟩ : ∃ E, E = wr.heap.size := ⟨_, rfl⟩
          rw [← hE] at q1 q2 hsE HRE y1 y2 ⊢
          clear hE
          clear HG HBEL HGE d0 d1
          generalize wr.alloc (.cells #[.int .i64 x, .int .i64 y] 55) = W0 at *
          obtain ⟨e0, he0⟩ : ∃ e0, e0 = und (x, y) := ⟨_, rfl⟩
          have HUN := Lib.hid (fun (w' : World) h hw => he0 ▸ und_s W0 E x y w' h hw)
          have HSY := Lib.hid (show stepKeys f ks0 (j + 1) = addK (stepKeys f ks0 j) e0 from by rw [HSK.out, he0])
          have HSX := Lib.hid (show ∀ e, stepHits f k e (j + 1) = stepHits f k e j ++ (if e0 = e then [(k : Int)] else []) from fun e => by rw [HSS.out e, he0])
          rw [← he0] at hwu
          clear he0
          obtain ⟨ex, ey⟩ := e0
          have hlk0 : (Instr.lookup 48 (.map (some (w.heap.size + 1))) (.agg #[.int .i64 ex, .int .i64 ey]) false).run Try.prog W0.drew = .ok (F (ex, ey)) W0.drew := (HG2.out.kept (Below.drew (Below.refl _ _))).m.look hwu
          have hlk1 : ∀ W', Below W0.heap.size W0 W' → (Instr.lookup 48 (.map (some (w.heap.size + 1))) (.agg #[.int .i64 ex, .int .i64 ey]) false).run Try.prog W' = .ok (F (ex, ey)) W' := fun W' hb => (HG2.out.kept hb).m.look hwu
          have hlk2 : ∀ W' ob, Below W0.heap.size W0 W' → (Instr.lookup 48 (.map (some (w.heap.size + 1))) (.agg #[.int .i64 ex, .int .i64 ey]) false).run Try.prog (W'.alloc ob) = .ok (F (ex, ey)) (W'.alloc ob) := fun W' ob hb => (HG2.out.kept (Below.alloc hb hb.size _)).m.look hwu
          have hgl : ((fun e => G0 e ++ stepHits f k e j) (ex, ey)).length ≤ 300 := by
            show (G0 (ex, ey) ++ stepHits f k (ex, ey) j).length ≤ 300
            rw [List.length_append]
            have := HLN.out (ex, ey)
            have := stepHits_len f k (ex, ey) j
            omega
          generalize hgs : (fun e => G0 e ++ stepHits f k e j) = G at *
          have HGS := Lib.hid hgs
          clear hgs
          have HNM := Lib.hid HG2.out.ne_map
          have HSW := Lib.hid (show w.heap.size ≤ W0.heap.size by omega)
          have HGC := Lib.hid (HG2.out.ne_cells HGE2.out)
          go_region_held3 (EdS E x y) (first | assumption | exact ⟨u1, u2⟩ | exact ⟨q1, q2⟩ | exact ⟨cell_below (Below.alloc (Below.refl _ _) (Nat.le_refl _) _) q1, cell_below (Below.alloc (Below.refl _ _) (Nat.le_refl _) _) q2⟩ | exact ⟨cell_below (Below.alloc (Below.drew (Below.refl _ _)) (Nat.le_refl _) _) q1, cell_below (Below.alloc (Below.drew (Below.refl _ _)) (Nat.le_refl _) _) q2⟩ | (refine ⟨?_, ?_⟩ <;> first | assumption | (simp [*, go_sem]; done))) (first | (go_at_call 25; refine (HUN.out _ ?_ ?_).mono ?_; (first | assumption | exact ⟨q1, q2⟩ | (refine ⟨?_, ?_⟩ <;> first | assumption | (simp [*, go_sem]; done))); (first | assumption | exact q4.alloc q4.size _ | exact (by repeat (first | exact Below.refl _ _ | refine Below.drew ?_ | refine Below.alloc ?_ (by first | exact Nat.le_refl _ | (simp; done) | (simp; omega) | omega) _ | refine Below.more ?_ (by first | exact Nat.le_refl _ | (simp; done) | (simp; omega) | omega) _ _ | refine Below.setCell ?_ (by first | exact Nat.le_refl _ | (simp; done) | (simp; omega) | omega) _ | assumption))); rintro e wz ⟨rfl, q, q4, qb⟩; obtain ⟨q1, q2⟩ := q; have hl := hlk1 _ q4; have hl2 := fun ob => hlk2 _ ob q4; (first | have qn := (qb.block _ (Array.getElem?_eq_some_iff.1 qn).1).trans qn | have qn := (qb.block _ (by simp)).trans (heap_alloc_new _ _) | skip)) | (refine step_append_lies _ (by rfl) _ _ _ (by rfl) (w.heap.size + 1) 3 i0 _ 1 8 Try.underlying57 hi hz0 hz1 hz2 (by rfl) (by decide) (F (ex, ey)) (G (ex, ey)).length ((G (ex, ey)).map (.int .i64)) (by rfl) ?_ _ 1 1 [.int .i64 (k : Int)] (by rfl) (by rfl) ?_ ?_ (by decide) ?_ ?_ ?_ _ (by rfl) ?_; (first | exact own_kept (HG2.out.own (ex, ey)) (q4.alloc q4.size _) | exact own_kept (HG2.out.own (ex, ey)) q4); (first | exact World.news_of_block (heap_alloc_new _ _) | exact World.news_of_block qn | (rw [hsE] at qn; exact World.news_of_block qn)); (intro u hu; simp at hu; subst hu; rfl); (simp only [maxLen]; omega); omega; (first | omega | (have := q4.size; simp; omega) | (have := q4.size; omega)); intro g cap w1 hown1 hgrow hat hglt; have t1 := cell_gr (b := E) (o := 0) (v := .int .i64 x) hgrow (fun e => by have := (HRE.out _ _ e).2; omega) (by first | exact q1 | exact cell_below (Below.alloc (Below.refl _ _) (Nat.le_refl _) _) q1); have t2 := cell_gr (b := E) (o := 1) (v := .int .i64 y) hgrow (fun e => by have := (HRE.out _ _ e).2; omega) (by first | exact q2 | exact cell_below (Below.alloc (Below.refl _ _) (Nat.le_refl _) _) q2); obtain ⟨w2, hrun2, hm2, hg2⟩ := (((by first | exact HG2.out.m.kept (q4.alloc q4.size _) | exact HG2.out.m.kept q4) : MapV _ _ _ _ _).grown hgrow (HNM.out _)).store (by simp only [maxLen]; omega) hwu (.slice (some ⟨g, 0, none⟩) ((G (ex, ey)).length + 1) cap); have hrun3 : (Instr.mapUpdate 48 (.map (some (w.heap.size + 1))) (.agg #[.int .i64 ex, .int .i64 ey]) (.slice (some ⟨g, 0, none⟩) ((G (ex, ey)).length + 1) cap)).run Try.prog w1 = .ok () w2 := hrun2; have u1 := cell_gr (b := E) (o := 0) (v := .int .i64 x) hg2 (fun e => by simp only [Option.some.injEq] at e; omega) t1; have u2 := cell_gr (b := E) (o := 1) (v := .int .i64 y) hg2 (fun e => by simp only [Option.some.injEq] at e; omega) t2; have HPUT := Lib.hid (Groups.put (by first | exact HG2.out.kept (q4.alloc q4.size _) | exact HG2.out.kept q4) hown1 hgrow (by rcases hat with h | h; exact Or.inl h.symm; exact Or.inr (congrArg some h)) hm2 hg2); have HBW := Lib.hid (Below.grown (B := w.heap.size) (a := w) (Below.grown (B := w.heap.size) (a := w) (by first | exact HB2.out.trans ((q4.alloc q4.size _).mono HSW.out) | exact HB2.out.trans (q4.mono HSW.out)) hgrow (by have h1 := q4.size; have h2 := HSW.out; first | omega | (simp; omega)) (fun g e => by have := (HRE.out _ _ e).1; omega)) hg2 (by have h1 := q4.size; have h2 := HSW.out; have h3 := hgrow.size; (try simp only [World.size_alloc] at h3); omega) (fun g e => by simp only [Option.some.injEq] at e; omega)); have HGW := Lib.hid ((hg2.block ge (by have h1 := q4.size; have h3 := hgrow.size; (try simp only [World.size_alloc] at h3); omega) (fun e => HGC.out (Option.some.inj e))).trans ((hgrow.block ge (by have h1 := q4.size; first | omega | (simp; omega)) (fun e => HNE.out _ _ e.symm rfl)).trans (by first | exact ((q4.alloc q4.size _).block ge (by omega)).trans HGE2.out | exact (q4.block ge (by omega)).trans HGE2.out))); have HNG := Lib.hid (show g ≠ ge from by rcases hat with h | h; exact HNE.out _ _ h; (have h1 := q4.size; first | omega | (simp at h; omega))); have q1 := t1; have q2 := t2))
          all_goals (
            go_wp2
            refine ⟨⟨j + 1, putF F (ex, ey) (.slice (some ⟨g, 0, none⟩) ((G (ex, ey)).length + 1) cap), by omega, by go_num, ?_, ?_, HGW.out, HBW.out⟩, by simp only [intOf]; omega⟩
            case refine_1 =>
              have h := HPUT.out
              have e : putF G (ex, ey) (G (ex, ey) ++ [(k : Int)]) = fun e => G0 e ++ stepHits f k e (j + 1) := by
                funext e
                rw [HSX.out e, ← HGS.out]
                by_cases hx : e = (ex, ey)
                · subst hx; rw [putF_self]; simp
                · rw [putF_ne hx, if_neg (Ne.symm hx)]; simp
              rw [e, ← HSY.out] at h
              exact h
            case refine_2 =>
              refine Lib.hid fun p g2 h1 => ?_
              by_cases hx : p = (ex, ey)
              · subst hx
                rw [putF_self] at h1
                simp only [Value.ownBlock, Option.some.injEq] at h1
                rw [← h1]
                exact HNG.out
              · rw [putF_ne hx] at h1
                exact HNE.out p g2 h1)
        · have hj1 : ¬ (j : Int) < 4 := by omega
          obtain rfl : j = 4 := by omega
          go_wp2
          refine ⟨⟨k + 1, F, by omega, rfl, ?_, HBEL.out⟩, by simp only [intOf]; omega⟩
          have h := HG.out
          have e : (fun e => G0 e ++ stepHits f k e 4) = fun e => hitsTo s e (k + 1) := by funext e; rw [HSU.out e]
          rw [e, ← HKS.out] at h
          exact h
    · have hk1 : ¬ (k : Int) < (m : Int) := by omega
      obtain rfl : k = m := by omega
      go_wp2
      go_ret
      first
        | exact ⟨w.heap.size + 1, ⟨F, HG.out⟩, by omega, HBEL.out⟩
        | exact ⟨w.heap.size + 1, ⟨F, HG.out, by omega⟩, HBEL.out⟩
        | exact ⟨w.heap.size + 1, ⟨rfl, ⟨F, HG.out⟩⟩, by omega, HBEL.out⟩
        | exact ⟨⟨F, HG.out⟩, by omega, HBEL.out⟩
        | exact ⟨⟨F, HG.out, by omega⟩, HBEL.out⟩
        | exact ⟨w.heap.size + 1, F, HG.out, by omega, HBEL.out⟩
        | exact ⟨w.heap.size + 1, rfl, ⟨F, HG.out⟩, by omega, HBEL.out⟩
        | exact ⟨w.heap.size + 1, rfl, F, HG.out, by omega, HBEL.out⟩
        | exact ⟨w.heap.size + 1, rfl, ⟨F, HG.out, by omega⟩, HBEL.out⟩
end Go.Proofs.Ytpfmcobkfofbjaa
