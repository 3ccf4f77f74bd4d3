/- Contract of impl.sortedEdges at the two functions that it is handed. -/
import Derived.Test.YtbmhehjllchpoaaGreatSorted
namespace Go.Proofs.YtbmhehjllchpoaaGreat
open Go Go.RowKit Go.Maps Go.Sort
def qBnd (n : Nat) : Bool := decide (n = 1)
theorem qBnd_eq (n : Nat) : ((n : Int) == 1) = qBnd n := by
  rw [Bool.eq_iff_iff]; simp [qBnd]; omega
theorem nodup_len {α : Type} [BEq α] [LawfulBEq α] {l m : List α} (h : l.Nodup) (hs : ∀ x ∈ l, x ∈ m) : l.length ≤ m.length := by
  induction l generalizing m with
  | nil => simp
  | cons x l ih =>
    obtain ⟨h1, h2⟩ := List.nodup_cons.1 h
    have hx := hs x (by simp)
    have h3 := ih (m := m.erase x) h2 (fun y hy => (List.mem_erase_of_ne (fun (e : y = x) => h1 (by rw [← e]; exact hy))).2 (hs y (by simp [hy])))
    rw [List.length_erase_of_mem hx] at h3
    have := List.length_pos_of_mem hx
    simp only [List.length_cons]
    omega
def qAll (_ : Nat) : Bool := true
theorem own_slice {w : World} {base : Nat} {e : TypeId} {s : Nat} {v : Value} {n : Nat} {xs : List Value} (h : w.ownsRow base e s v n xs) : ∃ a cap, v = .slice a n cap := by
  rcases h.2 with ⟨rfl, h0⟩ | ⟨g, cap, cur, rfl, _⟩
  · exact ⟨none, 0, by rw [h0]⟩
  · exact ⟨_, _, rfl⟩
theorem is_bnd (a : Option Addr) (n c : Nat) (w : World) : Calls Tryz.prog 61 #[.slice a n c] w fun e w' => e = .returned (.bool (qBnd n)) ∧ w = w' := by
  go_enter Tryz.func61, Tryz.ntmps61
  go_wp2
  go_ret
  exact ⟨ret_bool (qBnd_eq n), rfl⟩
theorem is_all (a : Option Addr) (n c : Nat) (w : World) : Calls Tryz.prog 70 #[.slice a n c] w fun e w' => e = .returned (.bool (qAll n)) ∧ w = w' := by
  go_enter Tryz.func70, Tryz.ntmps70
  go_wp2
  go_ret
  exact ⟨rfl, rfl⟩
theorem wpList_append_edge (w : World) {ops : Array Oper} {rest : List Oper} {o : Oper} {a : Act} {Q : Exit → Act → World → Prop} (hgd : o.guard = none) (s x : Operand)
    (ho : o.op = .call { callee := .builtin .append, args := #[s, x], argTypes := #[60, 60] }) (base : Nat) (v : Value) (L : List (Int × Int)) (hs : a.eval s = v) (hown : w.ownsRow base 63 2 v L.length (edgeVals L))
    (ad : Addr) (c : Nat) (hx : a.eval x = .slice (some ad) 1 c) (p : Int × Int) (hn0 : w.cell? ad = some (.int .i64 p.1)) (hn1 : w.cell? (ad.add 1) = some (.int .i64 p.2)) (hl : L.length ≤ 1048576) (hbase : base ≤ w.heap.size)
    (hK : ∀ v' w', w'.ownsRow base 63 2 v' (L ++ [p]).length (edgeVals (L ++ [p])) → w.grownBy w' v.ownBlock → (v'.ownBlock = v.ownBlock ∨ v'.ownBlock = some w.heap.size) → wpList Tryz.prog ops Q rest (a.put o.dst v') w') :
    wpList Tryz.prog ops Q (o :: rest) a w := by
  obtain ⟨i0, hi, hz0, hz1, hz2⟩ := info_parts info_Edge
  refine wpList_append_own_at w hgd s x 60 ho base 63 i0 _ 2 16 Tryz.underlying60 hi hz0 hz1 hz2 rfl (by decide) v L.length _ hs hown ad 1 c [.int .i64 p.1, .int .i64 p.2] hx rfl ?_ ?_ (by simp only [maxLen]; omega) (by omega) hbase ?_
  · intro j u hu
    match j, hu with
    | 0, hu =>
      obtain rfl : Value.int .i64 p.1 = u := by simpa using hu
      simpa [Addr.add] using hn0
    | 1, hu =>
      obtain rfl : Value.int .i64 p.2 = u := by simpa using hu
      exact hn1
    | j + 2, hu => simp at hu
  · intro u hu
    simp only [List.mem_cons, List.not_mem_nil, or_false] at hu
    rcases hu with rfl | rfl <;> rfl
  intro v' w' ho' hg hnil hloc
  exact hK v' w' (by rw [List.length_append, List.length_singleton, edgeVals_snoc]; exact ho') hg hloc
set_option maxRecDepth 100000 in
set_option maxHeartbeats 2000000 in
theorem sorted_bnd (base b n : Nat) (ks : List (Int × Int)) (F : Int × Int → Value) (G : Int × Int → List Int) (w : World) (hg : Groups w base b n ks F G) (hn : ks.length ≤ 1048576) :
    Calls Tryz.prog 59 #[.map (some b), .func (.func 61) #[] #[]] w fun e w' => ∃ v, e = .returned v ∧ w'.ownsRow w.heap.size 63 2 v (sortE (ks.filter fun p => qBnd (G p).length)).length (edgeVals (sortE (ks.filter fun p => qBnd (G p).length))) ∧ Below w.heap.size w w' := by
  have HM := Lib.hid hg.m
  have hblt := hg.m.lt
  have HNK := Lib.hid (show ks.Nodup from by obtain ⟨D, _, _, _, _, _, h, _⟩ := hg.m; exact h)
  have HFS := Lib.hid (show ∀ p, ∃ a cap, F p = .slice a (G p).length cap from fun p => own_slice (hg.own p))
  obtain ⟨q, hq⟩ : ∃ q : Int × Int → Bool, q = fun p => qBnd (G p).length := ⟨_, rfl⟩
  rw [← hq]
  have HIS := Lib.hid (show ∀ p a c W, Calls Tryz.prog 61 #[.slice a (G p).length c] W fun e w' => e = .returned (.bool (q p)) ∧ W = w' from fun p a c W => by rw [hq]; exact is_bnd a _ c W)
  obtain ⟨R, hR⟩ : ∃ R, R = sortE (ks.filter q) := ⟨_, rfl⟩
  rw [← hR]
  have HR := Lib.hid hR
  clear hg hq hR
  go_enter Tryz.func59, Tryz.ntmps59
  go_wp2_with (at_range; refine wpList_range_map _ rfl _ rfl b n ks F rfl (HM.out.kept (by repeat (first | exact Below.refl _ _ | refine Below.drew ?_ | refine Below.alloc ?_ (by first | exact Nat.le_refl _ | (simp; done) | (simp; omega) | omega) _ | refine Below.more ?_ (by first | exact Nat.le_refl _ | (simp; done) | (simp; omega) | omega) _ _ | refine Below.setCell ?_ (by first | exact Nat.le_refl _ | (simp; done) | (simp; omega) | omega) _ | assumption))) ?_; intro w0 cnt0 hrg0 hg0 hs0; rw [World.size_alloc] at hrg0 hs0 ⊢)
  go_frame
  have HRG0 := Lib.hid hrg0
  have HB0 := Lib.hid (show Below w.heap.size w w0 from Below.grown (Below.alloc (Below.refl _ _) (Nat.le_refl _) _) hg0 (by simp) (fun g e => by cases e))
  have HOW0 := Lib.hid (show w0.ownsRow w.heap.size 63 2 (.slice (some ⟨w.heap.size, 0, none⟩) 0 0) 0 [] from own_grown (by
      have hz := World.ownsRow_made (e := 63) (size := 2) (base := w.heap.size) w #[] 0 (by simp) (by decide) (by simp)
      simpa using hz) hg0 (fun b e => by cases e))
  clear hrg0 hg0 HM
  go_loopw [5] (fun out wr => ∃ (done : List (Int × Int)) (cnt : Nat), MapRg wr b (w.heap.size + 1) n ks F done cnt ∧ Below w.heap.size w wr ∧ wr.ownsRow w.heap.size 63 2 out (done.filter q).length (edgeVals (done.filter q))) (fun _ wr => wr.rangeLeft b (w.heap.size + 1))
  case atStart => exact ⟨[], cnt0, HRG0.out, HB0.out, HOW0.out⟩
  case round =>
    clear HRG0 HB0 HOW0 hs0
    obtain ⟨done, cnt, hrg, hbel, hown⟩ := hrel
    have HRG := Lib.hid hrg
    have HBEL := Lib.hid hbel
    have HOWN := Lib.hid hown
    clear hrg hbel hown
    go_wp2_with (at_next; refine wpList_next_map _ rfl _ rfl b (w.heap.size + 1) n ks F done cnt rfl HRG.out ?_ ?_)
    · intro hall
      have HALL := Lib.hid (show ∀ p, p ∈ ks → p ∈ done from fun ⟨a, b⟩ h => by first | exact hall _ h | exact hall a b h)
      have HL := Lib.hid (show sortE (done.filter q) = R from by
        rw [HR.out]
        obtain ⟨D, left, _, _, _, _, _, h6, h7⟩ := HRG.out
        refine sortE_congr (h6.filter _) (HNK.out.filter _) fun x => ?_
        rw [List.mem_filter, List.mem_filter]
        exact ⟨fun h => ⟨h7 x h.1, h.2⟩, fun h => ⟨HALL.out x h.1, h.2⟩⟩)
      have HLN := Lib.hid (show (done.filter q).length ≤ 1048576 from by
        obtain ⟨D, left, _, _, _, _, _, h6, h7⟩ := HRG.out
        have h8 : done.length ≤ ks.length := nodup_len h6 h7
        have h9 := List.length_filter_le q done
        omega)
      clear hall HALL
      obtain ⟨L, hL⟩ : ∃ L, L = done.filter q := ⟨_, rfl⟩
      rw [← hL] at HL HLN HOWN
      have HLE := Lib.hid (len_sortE L)
      clear hL
      go_wp2_with (go_at_call 76; refine (sortFunc_c w.heap.size _ L _ HOWN.out HLN.out).mono ?_; rintro e w1 ⟨rfl, ho1, hg1⟩; have HO1 := Lib.hid ho1; have HG1 := Lib.hid hg1; clear ho1 hg1)
      go_ret
      refine ⟨_, rfl, by rw [← HL.out, HLE.out]; exact HO1.out, Below.grown HBEL.out HG1.out HBEL.out.size (fun g e => (own_row HOWN.out g e).1)⟩
    · intro x y w1 cnt1 hpk hpd hrg1 hlt hgr hsz hen
      obtain ⟨af, cf, hf⟩ := HFS.out (x, y)
      rw [hf] at hen ⊢
      have HRG1 := Lib.hid hrg1
      have HB1 := Lib.hid (show Below w.heap.size w w1 from Below.grown HBEL.out hgr HBEL.out.size (fun g e => by cases e; omega))
      have HO1 := Lib.hid (own_grown HOWN.out hgr (fun g e => by
        cases e
        intro h
        obtain ⟨_, c2, fz2, hc2⟩ := own_row HOWN.out _ h
        exact (HRG.out.not_cells hc2).2 rfl))
      have HMW := Lib.hid HRG.out.left_eq
      have HLT := Lib.hid hlt
      have hwb := HB1.out.size
      have HLN := Lib.hid (show (done.filter q).length ≤ 1048576 from by
        obtain ⟨D, left, _, _, _, _, _, h6, h7⟩ := HRG.out
        have h8 : done.length ≤ ks.length := nodup_len h6 h7
        have h9 := List.length_filter_le q done
        omega)
      clear hrg1 hgr hlt HOWN HRG HBEL
      have HSN := Lib.hid (show (done ++ [(x, y)]).filter q = done.filter q ++ (if q (x, y) = true then [(x, y)] else []) from by rw [List.filter_append]; congr 1; simp [List.filter_cons])
      have HIS1 := Lib.hid (fun a c W => HIS.out (x, y) a c W)
      generalize (G (x, y)).length = m at *
      obtain ⟨L, hL⟩ : ∃ L, L = done.filter q := ⟨_, rfl⟩
      rw [← hL] at HLN HSN HO1
      clear hL
      cases hqp : q (x, y)
      · rw [hqp] at HIS1 HSN
        have HSN2 := Lib.hid (show (done ++ [(x, y)]).filter q = L from by rw [HSN.out]; simp)
        go_wp2_with (go_at_call 61; refine (HIS1.out _ _ _).mono ?_; rintro e w' ⟨rfl, rfl⟩)
        refine ⟨⟨done ++ [(x, y)], cnt1, HRG1.out.below (by repeat (first | exact Below.refl _ _ | refine Below.drew ?_ | refine Below.alloc ?_ (by first | exact Nat.le_refl _ | (simp; done) | (simp; omega) | omega) _ | refine Below.more ?_ (by first | exact Nat.le_refl _ | (simp; done) | (simp; omega) | omega) _ _ | refine Below.setCell ?_ (by first | exact Nat.le_refl _ | (simp; done) | (simp; omega) | omega) _ | assumption)), Below.trans HB1.out (by repeat (first | exact Below.refl _ _ | refine Below.drew ?_ | refine Below.alloc ?_ (by first | exact Nat.le_refl _ | (simp; done) | (simp; omega) | omega) _ | refine Below.more ?_ (by first | exact Nat.le_refl _ | (simp; done) | (simp; omega) | omega) _ _ | refine Below.setCell ?_ (by first | exact Nat.le_refl _ | (simp; done) | (simp; omega) | omega) _ | assumption)), by rw [HSN2.out]; exact own_kept HO1.out (by repeat (first | exact Below.refl _ _ | refine Below.drew ?_ | refine Below.alloc ?_ (by first | exact Nat.le_refl _ | (simp; done) | (simp; omega) | omega) _ | refine Below.more ?_ (by first | exact Nat.le_refl _ | (simp; done) | (simp; omega) | omega) _ _ | refine Below.setCell ?_ (by first | exact Nat.le_refl _ | (simp; done) | (simp; omega) | omega) _ | assumption))⟩, ?_⟩
        rw [(HRG1.out.below (show Below w1.heap.size w1 _ from (by repeat (first | exact Below.refl _ _ | refine Below.drew ?_ | refine Below.alloc ?_ (by first | exact Nat.le_refl _ | (simp; done) | (simp; omega) | omega) _ | refine Below.more ?_ (by first | exact Nat.le_refl _ | (simp; done) | (simp; omega) | omega) _ _ | refine Below.setCell ?_ (by first | exact Nat.le_refl _ | (simp; done) | (simp; omega) | omega) _ | assumption)))).left_eq, HMW.out]
        exact HLT.out
      · rw [hqp] at HIS1 HSN
        have HSN2 := Lib.hid (show (done ++ [(x, y)]).filter q = L ++ [(x, y)] from by rw [HSN.out]; simp)
        go_wp2_with (first | (go_at_call 61; refine (HIS1.out _ _ _).mono ?_; rintro e w' ⟨rfl, rfl⟩) | (at_builtin; go_loud (refine wpList_append_edge _ rfl _ _ rfl w.heap.size _ L rfl (own_kept HO1.out (by repeat (first | exact Below.refl _ _ | refine Below.drew ?_ | refine Below.alloc ?_ (by first | exact Nat.le_refl _ | (simp; done) | (simp; omega) | omega) _ | refine Below.more ?_ (by first | exact Nat.le_refl _ | (simp; done) | (simp; omega) | omega) _ _ | refine Below.setCell ?_ (by first | exact Nat.le_refl _ | (simp; done) | (simp; omega) | omega) _ | assumption))) _ 1 rfl (x, y) ?c1 ?c2 HLN.out ?c3 ?_)))
        case c3 => first | omega | (simp; omega)
        intro v' w' hp' hg' hloc'
        have HP' := Lib.hid hp'
        have HB' := Lib.hid (Below.grown (Below.trans HB1.out (show Below w.heap.size w1 _ from (by repeat (first | exact Below.refl _ _ | refine Below.drew ?_ | refine Below.alloc ?_ (by first | exact Nat.le_refl _ | (simp; done) | (simp; omega) | omega) _ | refine Below.more ?_ (by first | exact Nat.le_refl _ | (simp; done) | (simp; omega) | omega) _ _ | refine Below.setCell ?_ (by first | exact Nat.le_refl _ | (simp; done) | (simp; omega) | omega) _ | assumption)))) hg' (by first | omega | (simp; omega)) (fun b hb => (own_row HO1.out b hb).1))
        have HRG' := Lib.hid ((HRG1.out.below (show Below w1.heap.size w1 _ from (by repeat (first | exact Below.refl _ _ | refine Below.drew ?_ | refine Below.alloc ?_ (by first | exact Nat.le_refl _ | (simp; done) | (simp; omega) | omega) _ | refine Below.more ?_ (by first | exact Nat.le_refl _ | (simp; done) | (simp; omega) | omega) _ _ | refine Below.setCell ?_ (by first | exact Nat.le_refl _ | (simp; done) | (simp; omega) | omega) _ | assumption)))).kept hg' (fun e => by obtain ⟨_, c2, fz2, hc2⟩ := own_row HO1.out _ e.symm; exact (HRG1.out.not_cells hc2).1 rfl) (fun e => by obtain ⟨_, c2, fz2, hc2⟩ := own_row HO1.out _ e.symm; exact (HRG1.out.not_cells hc2).2 rfl))
        clear hp' hg' hloc'
        go_wp2
        refine ⟨⟨done ++ [(x, y)], cnt1, HRG'.out, HB'.out, by rw [HSN2.out, List.length_append, List.length_singleton]; exact HP'.out⟩, ?_⟩
        rw [HRG'.out.left_eq, HMW.out]
        exact HLT.out
set_option maxRecDepth 100000 in
set_option maxHeartbeats 2000000 in
theorem sorted_all (base b n : Nat) (ks : List (Int × Int)) (F : Int × Int → Value) (G : Int × Int → List Int) (w : World) (hg : Groups w base b n ks F G) (hn : ks.length ≤ 1048576) :
    Calls Tryz.prog 59 #[.map (some b), .func (.func 70) #[] #[]] w fun e w' => ∃ v, e = .returned v ∧ w'.ownsRow w.heap.size 63 2 v (sortE (ks.filter fun p => qAll (G p).length)).length (edgeVals (sortE (ks.filter fun p => qAll (G p).length))) ∧ Below w.heap.size w w' := by
  have HM := Lib.hid hg.m
  have hblt := hg.m.lt
  have HNK := Lib.hid (show ks.Nodup from by obtain ⟨D, _, _, _, _, _, h, _⟩ := hg.m; exact h)
  have HFS := Lib.hid (show ∀ p, ∃ a cap, F p = .slice a (G p).length cap from fun p => own_slice (hg.own p))
  obtain ⟨q, hq⟩ : ∃ q : Int × Int → Bool, q = fun p => qAll (G p).length := ⟨_, rfl⟩
  rw [← hq]
  have HIS := Lib.hid (show ∀ p a c W, Calls Tryz.prog 70 #[.slice a (G p).length c] W fun e w' => e = .returned (.bool (q p)) ∧ W = w' from fun p a c W => by rw [hq]; exact is_all a _ c W)
  obtain ⟨R, hR⟩ : ∃ R, R = sortE (ks.filter q) := ⟨_, rfl⟩
  rw [← hR]
  have HR := Lib.hid hR
  clear hg hq hR
  go_enter Tryz.func59, Tryz.ntmps59
  go_wp2_with (at_range; refine wpList_range_map _ rfl _ rfl b n ks F rfl (HM.out.kept (by repeat (first | exact Below.refl _ _ | refine Below.drew ?_ | refine Below.alloc ?_ (by first | exact Nat.le_refl _ | (simp; done) | (simp; omega) | omega) _ | refine Below.more ?_ (by first | exact Nat.le_refl _ | (simp; done) | (simp; omega) | omega) _ _ | refine Below.setCell ?_ (by first | exact Nat.le_refl _ | (simp; done) | (simp; omega) | omega) _ | assumption))) ?_; intro w0 cnt0 hrg0 hg0 hs0; rw [World.size_alloc] at hrg0 hs0 ⊢)
  go_frame
  have HRG0 := Lib.hid hrg0
  have HB0 := Lib.hid (show Below w.heap.size w w0 from Below.grown (Below.alloc (Below.refl _ _) (Nat.le_refl _) _) hg0 (by simp) (fun g e => by cases e))
  have HOW0 := Lib.hid (show w0.ownsRow w.heap.size 63 2 (.slice (some ⟨w.heap.size, 0, none⟩) 0 0) 0 [] from own_grown (by
      have hz := World.ownsRow_made (e := 63) (size := 2) (base := w.heap.size) w #[] 0 (by simp) (by decide) (by simp)
      simpa using hz) hg0 (fun b e => by cases e))
  clear hrg0 hg0 HM
  go_loopw [5] (fun out wr => ∃ (done : List (Int × Int)) (cnt : Nat), MapRg wr b (w.heap.size + 1) n ks F done cnt ∧ Below w.heap.size w wr ∧ wr.ownsRow w.heap.size 63 2 out (done.filter q).length (edgeVals (done.filter q))) (fun _ wr => wr.rangeLeft b (w.heap.size + 1))
  case atStart => exact ⟨[], cnt0, HRG0.out, HB0.out, HOW0.out⟩
  case round =>
    clear HRG0 HB0 HOW0 hs0
    obtain ⟨done, cnt, hrg, hbel, hown⟩ := hrel
    have HRG := Lib.hid hrg
    have HBEL := Lib.hid hbel
    have HOWN := Lib.hid hown
    clear hrg hbel hown
    go_wp2_with (at_next; refine wpList_next_map _ rfl _ rfl b (w.heap.size + 1) n ks F done cnt rfl HRG.out ?_ ?_)
    · intro hall
      have HALL := Lib.hid (show ∀ p, p ∈ ks → p ∈ done from fun ⟨a, b⟩ h => by first | exact hall _ h | exact hall a b h)
      have HL := Lib.hid (show sortE (done.filter q) = R from by
        rw [HR.out]
        obtain ⟨D, left, _, _, _, _, _, h6, h7⟩ := HRG.out
        refine sortE_congr (h6.filter _) (HNK.out.filter _) fun x => ?_
        rw [List.mem_filter, List.mem_filter]
        exact ⟨fun h => ⟨h7 x h.1, h.2⟩, fun h => ⟨HALL.out x h.1, h.2⟩⟩)
      have HLN := Lib.hid (show (done.filter q).length ≤ 1048576 from by
        obtain ⟨D, left, _, _, _, _, _, h6, h7⟩ := HRG.out
        have h8 : done.length ≤ ks.length := nodup_len h6 h7
        have h9 := List.length_filter_le q done
        omega)
      clear hall HALL
      obtain ⟨L, hL⟩ : ∃ L, L = done.filter q := ⟨_, rfl⟩
      rw [← hL] at HL HLN HOWN
      have HLE := Lib.hid (len_sortE L)
      clear hL
      go_wp2_with (go_at_call 76; refine (sortFunc_c w.heap.size _ L _ HOWN.out HLN.out).mono ?_; rintro e w1 ⟨rfl, ho1, hg1⟩; have HO1 := Lib.hid ho1; have HG1 := Lib.hid hg1; clear ho1 hg1)
      go_ret
      refine ⟨_, rfl, by rw [← HL.out, HLE.out]; exact HO1.out, Below.grown HBEL.out HG1.out HBEL.out.size (fun g e => (own_row HOWN.out g e).1)⟩
    · intro x y w1 cnt1 hpk hpd hrg1 hlt hgr hsz hen
      obtain ⟨af, cf, hf⟩ := HFS.out (x, y)
      rw [hf] at hen ⊢
      have HRG1 := Lib.hid hrg1
      have HB1 := Lib.hid (show Below w.heap.size w w1 from Below.grown HBEL.out hgr HBEL.out.size (fun g e => by cases e; omega))
      have HO1 := Lib.hid (own_grown HOWN.out hgr (fun g e => by
        cases e
        intro h
        obtain ⟨_, c2, fz2, hc2⟩ := own_row HOWN.out _ h
        exact (HRG.out.not_cells hc2).2 rfl))
      have HMW := Lib.hid HRG.out.left_eq
      have HLT := Lib.hid hlt
      have hwb := HB1.out.size
      have HLN := Lib.hid (show (done.filter q).length ≤ 1048576 from by
        obtain ⟨D, left, _, _, _, _, _, h6, h7⟩ := HRG.out
        have h8 : done.length ≤ ks.length := nodup_len h6 h7
        have h9 := List.length_filter_le q done
        omega)
      clear hrg1 hgr hlt HOWN HRG HBEL
      have HSN := Lib.hid (show (done ++ [(x, y)]).filter q = done.filter q ++ (if q (x, y) = true then [(x, y)] else []) from by rw [List.filter_append]; congr 1; simp [List.filter_cons])
      have HIS1 := Lib.hid (fun a c W => HIS.out (x, y) a c W)
      generalize (G (x, y)).length = m at *
      obtain ⟨L, hL⟩ : ∃ L, L = done.filter q := ⟨_, rfl⟩
      rw [← hL] at HLN HSN HO1
      clear hL
      cases hqp : q (x, y)
      · rw [hqp] at HIS1 HSN
        have HSN2 := Lib.hid (show (done ++ [(x, y)]).filter q = L from by rw [HSN.out]; simp)
        go_wp2_with (go_at_call 70; refine (HIS1.out _ _ _).mono ?_; rintro e w' ⟨rfl, rfl⟩)
        refine ⟨⟨done ++ [(x, y)], cnt1, HRG1.out.below (by repeat (first | exact Below.refl _ _ | refine Below.drew ?_ | refine Below.alloc ?_ (by first | exact Nat.le_refl _ | (simp; done) | (simp; omega) | omega) _ | refine Below.more ?_ (by first | exact Nat.le_refl _ | (simp; done) | (simp; omega) | omega) _ _ | refine Below.setCell ?_ (by first | exact Nat.le_refl _ | (simp; done) | (simp; omega) | omega) _ | assumption)), Below.trans HB1.out (by repeat (first | exact Below.refl _ _ | refine Below.drew ?_ | refine Below.alloc ?_ (by first | exact Nat.le_refl _ | (simp; done) | (simp; omega) | omega) _ | refine Below.more ?_ (by first | exact Nat.le_refl _ | (simp; done) | (simp; omega) | omega) _ _ | refine Below.setCell ?_ (by first | exact Nat.le_refl _ | (simp; done) | (simp; omega) | omega) _ | assumption)), by rw [HSN2.out]; exact own_kept HO1.out (by repeat (first | exact Below.refl _ _ | refine Below.drew ?_ | refine Below.alloc ?_ (by first | exact Nat.le_refl _ | (simp; done) | (simp; omega) | omega) _ | refine Below.more ?_ (by first | exact Nat.le_refl _ | (simp; done) | (simp; omega) | omega) _ _ | refine Below.setCell ?_ (by first | exact Nat.le_refl _ | (simp; done) | (simp; omega) | omega) _ | assumption))⟩, ?_⟩
        rw [(HRG1.out.below (show Below w1.heap.size w1 _ from (by repeat (first | exact Below.refl _ _ | refine Below.drew ?_ | refine Below.alloc ?_ (by first | exact Nat.le_refl _ | (simp; done) | (simp; omega) | omega) _ | refine Below.more ?_ (by first | exact Nat.le_refl _ | (simp; done) | (simp; omega) | omega) _ _ | refine Below.setCell ?_ (by first | exact Nat.le_refl _ | (simp; done) | (simp; omega) | omega) _ | assumption)))).left_eq, HMW.out]
        exact HLT.out
      · rw [hqp] at HIS1 HSN
        have HSN2 := Lib.hid (show (done ++ [(x, y)]).filter q = L ++ [(x, y)] from by rw [HSN.out]; simp)
        go_wp2_with (first | (go_at_call 70; refine (HIS1.out _ _ _).mono ?_; rintro e w' ⟨rfl, rfl⟩) | (at_builtin; go_loud (refine wpList_append_edge _ rfl _ _ rfl w.heap.size _ L rfl (own_kept HO1.out (by repeat (first | exact Below.refl _ _ | refine Below.drew ?_ | refine Below.alloc ?_ (by first | exact Nat.le_refl _ | (simp; done) | (simp; omega) | omega) _ | refine Below.more ?_ (by first | exact Nat.le_refl _ | (simp; done) | (simp; omega) | omega) _ _ | refine Below.setCell ?_ (by first | exact Nat.le_refl _ | (simp; done) | (simp; omega) | omega) _ | assumption))) _ 1 rfl (x, y) ?c1 ?c2 HLN.out ?c3 ?_)))
        case c3 => first | omega | (simp; omega)
        intro v' w' hp' hg' hloc'
        have HP' := Lib.hid hp'
        have HB' := Lib.hid (Below.grown (Below.trans HB1.out (show Below w.heap.size w1 _ from (by repeat (first | exact Below.refl _ _ | refine Below.drew ?_ | refine Below.alloc ?_ (by first | exact Nat.le_refl _ | (simp; done) | (simp; omega) | omega) _ | refine Below.more ?_ (by first | exact Nat.le_refl _ | (simp; done) | (simp; omega) | omega) _ _ | refine Below.setCell ?_ (by first | exact Nat.le_refl _ | (simp; done) | (simp; omega) | omega) _ | assumption)))) hg' (by first | omega | (simp; omega)) (fun b hb => (own_row HO1.out b hb).1))
        have HRG' := Lib.hid ((HRG1.out.below (show Below w1.heap.size w1 _ from (by repeat (first | exact Below.refl _ _ | refine Below.drew ?_ | refine Below.alloc ?_ (by first | exact Nat.le_refl _ | (simp; done) | (simp; omega) | omega) _ | refine Below.more ?_ (by first | exact Nat.le_refl _ | (simp; done) | (simp; omega) | omega) _ _ | refine Below.setCell ?_ (by first | exact Nat.le_refl _ | (simp; done) | (simp; omega) | omega) _ | assumption)))).kept hg' (fun e => by obtain ⟨_, c2, fz2, hc2⟩ := own_row HO1.out _ e.symm; exact (HRG1.out.not_cells hc2).1 rfl) (fun e => by obtain ⟨_, c2, fz2, hc2⟩ := own_row HO1.out _ e.symm; exact (HRG1.out.not_cells hc2).2 rfl))
        clear hp' hg' hloc'
        go_wp2
        refine ⟨⟨done ++ [(x, y)], cnt1, HRG'.out, HB'.out, by rw [HSN2.out, List.length_append, List.length_singleton]; exact HP'.out⟩, ?_⟩
        rw [HRG'.out.left_eq, HMW.out]
        exact HLT.out
end Go.Proofs.YtbmhehjllchpoaaGreat
