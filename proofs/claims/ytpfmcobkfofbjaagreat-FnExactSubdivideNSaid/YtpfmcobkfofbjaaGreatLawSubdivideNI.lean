/- LawSubdivideNI, with App7, Clone, SubdM, SubdS, SubdI ahead of it. -/
import Derived.Test.YtpfmcobkfofbjaaGreatApp6
import Derived.Test.YtpfmcobkfofbjaaGreatSubG
import Derived.Test.YtpfmcobkfofbjaaGreatVertexPoint
import Derived.Test.YtpfmcobkfofbjaaGreatSubX
import Derived.Maps.AppendAt
import Derived.Test.YtpfmcobkfofbjaaGreatMarkMesh
namespace Go.Proofs.YtpfmcobkfofbjaaGreat
open Go Go.RowKit
section
variable {P : Program} {ops : Array Oper} {Q : Exit → Act → World → Prop}
variable {K : World → Prop} {R : Value → World → Prop} {T j : Nat} {tm : TypeId} {cs : List Value}
def app7Cl (K : World → Prop) (R : Value → World → Prop) (T : Nat) (tm : TypeId) (cs : List Value) (j : Nat) (W : World) (e e0 : TypeId) (lo : Nat) (v : Value) (n : Nat) (xs : List Value) : Nat × Value × Nat × Value → World → Prop
  | (0, _, _, _), w => (∃ z : Tail, w = more W z.X z.d) ∧ w.ownsRow W.heap.size e 1 v n xs ∧ w.heap[T]? = some (.cells ⟨cs⟩ tm (0, 0)) ∧ K w
  | (1, _, b, _), w => (∃ z : Tail, w = more W z.X z.d) ∧ w.ownsRow W.heap.size e 1 v n xs ∧ w.heap[T]? = some (.cells ⟨cs⟩ tm (0, 0)) ∧ K w ∧ w.heap[b]? = some (.cells #[] e0 (0, 0)) ∧ lo ≤ b
  | (2, u, _, _), w => (∃ z : Tail, w = more W z.X z.d) ∧ w.ownsRow W.heap.size e 1 v n xs ∧ w.heap[T]? = some (.cells ⟨cs⟩ tm (0, 0)) ∧ K w ∧ R u w
  | (3, u, b, _), w => (∃ z : Tail, w = more W z.X z.d) ∧ w.ownsRow W.heap.size e 1 v n xs ∧ w.heap[T]? = some (.cells ⟨cs⟩ tm (0, 0)) ∧ K w ∧ R u w ∧ w.heap[b]? = some (.cells ⟨[u]⟩ e (0, 0))
  | (4, u, _, v'), w => (∃ z : Tail, w = more W z.X z.d) ∧ w.ownsRow W.heap.size e 1 v' (n + 1) (xs ++ [u]) ∧ w.heap[T]? = some (.cells ⟨cs⟩ tm (0, 0)) ∧ K w ∧ R u w
  | (_ + 5, u, _, v'), w => (∃ z : Tail, w = more W z.X z.d) ∧ w.ownsRow W.heap.size e 1 v' (n + 1) (xs ++ [u]) ∧ w.heap[T]? = some (.cells ⟨cs.set j v'⟩ tm (0, 0)) ∧ K w ∧ R u w
def fin7 (s : Nat × Value × Nat × Value) : Bool := decide (5 ≤ s.1)
theorem app7Cl_C {W : World} {e e0 : TypeId} {lo n : Nat} {v : Value} {xs : List Value} : ∀ s w, fin7 s = false → app7Cl K R T tm cs j W e e0 lo v n xs s w → (∃ z : Tail, w = more W z.X z.d) ∧ w.heap[T]? = some (.cells ⟨cs⟩ tm (0, 0)) ∧ K w
  | (0, _, _, _), _, _, h => ⟨h.1, h.2.2.1, h.2.2.2⟩
  | (1, _, _, _), _, _, h => ⟨h.1, h.2.2.1, h.2.2.2.1⟩
  | (2, _, _, _), _, _, h => ⟨h.1, h.2.2.1, h.2.2.2.1⟩
  | (3, _, _, _), _, _, h => ⟨h.1, h.2.2.1, h.2.2.2.1⟩
  | (4, _, _, _), _, _, h => ⟨h.1, h.2.2.1, h.2.2.2.1⟩
  | (_ + 5, _, _, _), _, hf, _ => by simp [fin7] at hf
theorem app7Cl_stays {W : World} {e e0 : TypeId} {lo n : Nat} {v : Value} {xs : List Value} (hK : Carried K e tm T) (hR : ∀ u, Carried (R u) e tm T) : ∀ s w w', app7Cl K R T tm cs j W e e0 lo v n xs s w → Below w.heap.size w w' → app7Cl K R T tm cs j W e e0 lo v n xs s w'
  | (0, _, _, _), _, _, h, hb => ⟨ext_trans h.1 hb, own_kept h.2.1 hb, heap_keep h.2.2.1 hb, hK.below _ _ h.2.2.2 hb⟩
  | (1, _, _, _), _, _, h, hb => ⟨ext_trans h.1 hb, own_kept h.2.1 hb, heap_keep h.2.2.1 hb, hK.below _ _ h.2.2.2.1 hb, heap_keep h.2.2.2.2.1 hb, h.2.2.2.2.2⟩
  | (2, _, _, _), _, _, h, hb => ⟨ext_trans h.1 hb, own_kept h.2.1 hb, heap_keep h.2.2.1 hb, hK.below _ _ h.2.2.2.1 hb, (hR _).below _ _ h.2.2.2.2 hb⟩
  | (3, _, _, _), _, _, h, hb => ⟨ext_trans h.1 hb, own_kept h.2.1 hb, heap_keep h.2.2.1 hb, hK.below _ _ h.2.2.2.1 hb, (hR _).below _ _ h.2.2.2.2.1 hb, heap_keep h.2.2.2.2.2 hb⟩
  | (4, _, _, _), _, _, h, hb => ⟨ext_trans h.1 hb, own_kept h.2.1 hb, heap_keep h.2.2.1 hb, hK.below _ _ h.2.2.2.1 hb, (hR _).below _ _ h.2.2.2.2 hb⟩
  | (_ + 5, _, _, _), _, _, h, hb => ⟨ext_trans h.1 hb, own_kept h.2.1 hb, heap_keep h.2.2.1 hb, hK.below _ _ h.2.2.2.1 hb, (hR _).below _ _ h.2.2.2.2 hb⟩
theorem tail_app7 {W : World} {e e0 t : TypeId} {bytes lo n : Nat} {i : TypeInfo} {z v : Value} {xs : List Value} {oE oA oB oP oF oS : Oper} {iE iA iB iP iF iS : Nat} {a : Act} {u : Value} (hK : Carried K e tm T) (hR : ∀ u, Carried (R u) e tm T) (hone : ∀ u w, R u w → ∃ ua un uc, u = .slice ua un uc) (hT : W.heap.size ≤ T) (hte : tm ≠ e)
    (hiE : ops[iE]? = some oE) (hiA : ops[iA]? = some oA) (hiB : ops[iB]? = some oB) (hiP : ops[iP]? = some oP) (hiF : ops[iF]? = some oF) (hiS : ops[iS]? = some oS) (s x : Operand)
    (hlo : ∀ w, K w → lo ≤ w.heap.size)
    (hEw : Region.wanted oE (yielded ops a.tmps) = true)
    (hE : ∀ w, (execOp a.eval oE).run P w = .ok (.value (.slice (some ⟨w.heap.size, 0, none⟩) 0 0)) (w.alloc (.cells #[] e0)))
    (hAw : ∀ b0, Region.wanted oA (yielded ops (a.put oE.dst (.slice (some ⟨b0, 0, none⟩) 0 0)).tmps) = true)
    (hA : ∀ b0 w, (∃ z : Tail, w = more W z.X z.d) → w.heap[T]? = some (.cells ⟨cs⟩ tm (0, 0)) → K w → w.heap[b0]? = some (.cells #[] e0 (0, 0)) → lo ≤ b0 → Oper.givesAt P (a.put oE.dst (.slice (some ⟨b0, 0, none⟩) 0 0)) oA (fun u w' => Below w.heap.size w w' ∧ R u w') w)
    (hBw : ∀ b0 ua un uc, Region.wanted oB (yielded ops ((a.put oE.dst (.slice (some ⟨b0, 0, none⟩) 0 0)).put oA.dst (.slice ua un uc)).tmps) = true)
    (hB : ∀ b0 ua un uc w, (execOp ((a.put oE.dst (.slice (some ⟨b0, 0, none⟩) 0 0)).put oA.dst (.slice ua un uc)).eval oB).run P w = .ok (.value (.slice (some ⟨w.heap.size, 0, none⟩) 1 1)) (w.alloc (.cells ⟨[.slice ua un uc]⟩ e)))
    (hPw : ∀ b0 ua un uc b, Region.wanted oP (yielded ops (((a.put oE.dst (.slice (some ⟨b0, 0, none⟩) 0 0)).put oA.dst (.slice ua un uc)).put oB.dst (.slice (some ⟨b, 0, none⟩) 1 1)).tmps) = true)
    (ho : oP.op = .call { callee := .builtin .append, args := #[s, x], argTypes := #[t, t] })
    (ht : P.underlying t = some (.slice e)) (hi : P.info? e = some i) (hz : i.zero = some z) (hsize : i.size = 1) (hby : i.bytes = bytes) (hzs : z.cells.size = 1)
    (hs : ∀ b0 ua un uc b, (((a.put oE.dst (.slice (some ⟨b0, 0, none⟩) 0 0)).put oA.dst (.slice ua un uc)).put oB.dst (.slice (some ⟨b, 0, none⟩) 1 1)).eval s = v) (hx : ∀ b0 ua un uc b, (((a.put oE.dst (.slice (some ⟨b0, 0, none⟩) 0 0)).put oA.dst (.slice ua un uc)).put oB.dst (.slice (some ⟨b, 0, none⟩) 1 1)).eval x = .slice (some ⟨b, 0, none⟩) 1 1)
    (h63 : n + 1 ≤ maxLen) (hbytes : (n + 1) * bytes ≤ 140737488355328)
    (hFw : ∀ b0 ua un uc b v', Region.wanted oF (yielded ops ((((a.put oE.dst (.slice (some ⟨b0, 0, none⟩) 0 0)).put oA.dst (.slice ua un uc)).put oB.dst (.slice (some ⟨b, 0, none⟩) 1 1)).put oP.dst v').tmps) = true)
    (hF : ∀ b0 ua un uc b v' w, (execOp ((((a.put oE.dst (.slice (some ⟨b0, 0, none⟩) 0 0)).put oA.dst (.slice ua un uc)).put oB.dst (.slice (some ⟨b, 0, none⟩) 1 1)).put oP.dst v').eval oF).run P w = .ok (.value u) w)
    (hSw : ∀ b0 ua un uc b v', Region.wanted oS (yielded ops (((((a.put oE.dst (.slice (some ⟨b0, 0, none⟩) 0 0)).put oA.dst (.slice ua un uc)).put oB.dst (.slice (some ⟨b, 0, none⟩) 1 1)).put oP.dst v').put oF.dst u).tmps) = true)
    (hS : ∀ b0 ua un uc b va vc w, T < w.heap.size → (execOp (((((a.put oE.dst (.slice (some ⟨b0, 0, none⟩) 0 0)).put oA.dst (.slice ua un uc)).put oB.dst (.slice (some ⟨b, 0, none⟩) 1 1)).put oP.dst (.slice va (n + 1) vc)).put oF.dst u).eval oS).run P (putB w T cs tm) = .ok .skip (putB w T (cs.set j (.slice va (n + 1) vc)) tm))
    (hrest : ∀ b0 ua un uc b v' X d, (more W X d).ownsRow W.heap.size e 1 v' (n + 1) (xs ++ [.slice ua un uc]) → (more W X d).heap[T]? = some (.cells ⟨cs.set j v'⟩ tm (0, 0)) → K (more W X d) → R (.slice ua un uc) (more W X d) → Q .normal ((((((a.put oE.dst (.slice (some ⟨b0, 0, none⟩) 0 0)).put oA.dst (.slice ua un uc)).put oB.dst (.slice (some ⟨b, 0, none⟩) 1 1)).put oP.dst v').put oF.dst u).put oS.dst undef) (more W X d)) :
    tailW P ops (app7Cl K R T tm cs j W e e0 lo v n xs) Q fin7 iS [iE, iA, iB, iP, iF, iS] (0, undef, 0, undef) a := by
  refine tailW_step hiE hEw fun w hw => ?_
  obtain ⟨⟨y, rfl⟩, hown, hT0, hka⟩ := hw
  have hba := Below.alloc (Below.refl (more W y.X y.d).heap.size (more W y.X y.d)) (Nat.le_refl _) (.cells #[] e0)
  refine gives_value (hE _) ?_
  generalize hb0 : (more W y.X y.d).heap.size = b0 at *
  refine ⟨(1, undef, b0, undef), ⟨⟨⟨y.X.push (.cells #[] e0), y.d⟩, more_alloc _ _ _ _⟩, hown.alloc _, heap_keep hT0 (by rw [hb0]; exact hba), hK.below _ _ hka (by rw [hb0]; exact hba), by rw [← hb0]; exact heap_alloc_new _ _, by rw [← hb0]; exact hlo _ hka⟩, (fun _ q => by simp [fin7] at q), ?_⟩
  clear hown hT0 hka hba hb0
  refine tailW_step hiA (hAw b0) fun w hw => ?_
  obtain ⟨⟨y, rfl⟩, hown, hT0, hka, hbe, hbl⟩ := hw
  refine (hA b0 _ ⟨y, rfl⟩ hT0 hka hbe hbl).mono fun uu w1 ⟨hb1, hr1⟩ => ?_
  obtain ⟨ua, un, uc, rfl⟩ := hone uu w1 hr1
  obtain ⟨z1, rfl⟩ := ext_trans ⟨y, rfl⟩ hb1
  refine ⟨(2, .slice ua un uc, 0, undef), ⟨⟨z1, rfl⟩, own_kept hown hb1, heap_keep hT0 hb1, hK.below _ _ hka hb1, hr1⟩, (fun _ q => by simp [fin7] at q), ?_⟩
  clear hown hT0 hka hb1 hr1 hbe
  refine tailW_step hiB (hBw b0 _ _ _) fun w hw => ?_
  obtain ⟨⟨y, rfl⟩, hown, hT0, hka, hru⟩ := hw
  have hba := Below.alloc (Below.refl (more W y.X y.d).heap.size (more W y.X y.d)) (Nat.le_refl _) (.cells ⟨[.slice ua un uc]⟩ e)
  refine gives_value (hB b0 ua un uc _) ?_
  generalize hbb : (more W y.X y.d).heap.size = b at *
  refine ⟨(3, .slice ua un uc, b, undef), ⟨⟨⟨y.X.push (.cells ⟨[.slice ua un uc]⟩ e), y.d⟩, more_alloc _ _ _ _⟩, hown.alloc _, heap_keep hT0 (by rw [hbb]; exact hba), hK.below _ _ hka (by rw [hbb]; exact hba), (hR _).below _ _ hru (by rw [hbb]; exact hba), by rw [← hbb]; exact heap_alloc_new _ _⟩, (fun _ q => by simp [fin7] at q), ?_⟩
  clear hown hT0 hka hru hba
  refine tailW_step hiP (hPw b0 _ _ _ _) fun w hw => ?_
  obtain ⟨⟨y', rfl⟩, hown', hT1, hka', hru', hh⟩ := hw
  obtain ⟨v', w2, hr, h2, h3, _, h4⟩ := run_append_own_at (P := P) (more W y'.X y'.d) W.heap.size t oP.type e i z 1 bytes ht hi hz hsize hby hzs (by decide) v n xs hown' ⟨b, 0, none⟩ 1 1 [.slice ua un uc] rfl
    (fun j u hu => by
      rw [show (⟨b, 0, none⟩ : Addr).add j = ⟨b, j, none⟩ by (simp [Addr.add]; try omega), cell_of_row _ _ j _ _ (0, 0) hh]
      simpa using hu) (fun u hu => by obtain rfl : u = .slice ua un uc := by simpa using hu
                                      rfl) h63 hbytes (by simp)
  have hr2 : (execOp (((a.put oE.dst (.slice (some ⟨b0, 0, none⟩) 0 0)).put oA.dst (.slice ua un uc)).put oB.dst (.slice (some ⟨b, 0, none⟩) 1 1)).eval oP).run P (more W y'.X y'.d) = .ok (.value v') w2 := by
    unfold execOp
    simp only [ho, resolve, invoke, builtin, Sem.run_bind, Sem.run_pure, Result.andThen_ok, List.map_toArray, List.map_cons, List.map_nil, hs, hx, hr]
  have hT2 : w2.heap[T]? = some (.cells ⟨cs⟩ tm (0, 0)) := by
    rw [h3.block T (Array.getElem?_eq_some_iff.1 hT1).1 (fun q => hte (own_type hown' q.symm hT1))]
    exact hT1
  obtain ⟨Y, k, e2⟩ := Below.ext (Below.grown (show Below W.heap.size W (more W y'.X y'.d) from Below.more (Below.refl _ _) (Nat.le_refl _) _ _) h3 (by simp) (fun k hk => (hown'.lt k hk).1))
  refine gives_value hr2 ⟨(4, .slice ua un uc, b, v'), ⟨⟨⟨Y, k⟩, e2⟩, h2, hT2, hK.grown _ _ _ hka' (fun g c t hv hg => own_type hown' hv hg) (fun g hv => own_cells hown' hv) h3, (hR _).grown _ _ _ hru' (fun g c t hv hg => own_type hown' hv hg) (fun g hv => own_cells hown' hv) h3⟩, (fun _ q => by simp [fin7] at q), ?_⟩
  clear hr hr2 h2 h3 h4 hT2 e2 hown' hT1 hka' hru' hh
  refine tailW_step hiF (hFw b0 _ _ _ _ _) fun w hw => gives_value (hF b0 _ _ _ _ _ _) ⟨(4, .slice ua un uc, b, v'), hw, (fun _ q => by simp [fin7] at q), ?_⟩
  refine tailW_step hiS (hSw b0 _ _ _ _ _) fun w hw => ?_
  obtain ⟨⟨y3, rfl⟩, hown3, hT3, hka3, hru3⟩ := hw
  have hlt := (Array.getElem?_eq_some_iff.1 hT3).1
  obtain ⟨va, vc, hvf⟩ := own_shape hown3
  subst hvf
  have h5 := hS b0 ua un uc b va vc _ hlt
  rw [putB_self hT3] at h5
  have hch : Chg T (T + 1) (more W y3.X y3.d) (putB (more W y3.X y3.d) T (cs.set j (.slice va (n + 1) vc)) tm) := ⟨rfl, rfl, rfl, by simp [putB], fun k _ hk => heap_putB_other k (by omega)⟩
  have hbl : Below W.heap.size W (putB (more W y3.X y3.d) T (cs.set j (.slice va (n + 1) vc)) tm) := (show Below W.heap.size W (more W y3.X y3.d) from Below.more (Below.refl _ _) (Nat.le_refl _) _ _).trans (Below.putB hT)
  obtain ⟨Y4, k4, e4⟩ := Below.ext hbl
  have hown4 : (putB (more W y3.X y3.d) T (cs.set j (.slice va (n + 1) vc)) tm).ownsRow W.heap.size e 1 (.slice va (n + 1) vc) (n + 1) (xs ++ [.slice ua un uc]) := by
    refine ⟨hown3.1, hown3.2.imp id ?_⟩
    rintro ⟨g, cap, cur, hv, hb, hg, r⟩
    refine ⟨g, cap, cur, hv, hb, ?_, r⟩
    rw [heap_putB_other g (fun q => ?_)]
    · exact hg
    · subst q
      exact hte (own_type hown3 (by rw [hv]; rfl) hT3)
  refine gives_skip h5 ⟨(5, .slice ua un uc, b, .slice va (n + 1) vc), ⟨⟨⟨Y4, k4⟩, e4⟩, hown4, heap_putB hlt, hK.store _ _ hka3 ⟨_, hT3⟩ hch, (hR _).store _ _ hru3 ⟨_, hT3⟩ hch⟩, (fun _ _ => rfl), ?_⟩
  refine tailW_nil ?_
  rintro w5 ⟨⟨z5, rfl⟩, h6, h7, h8, h9⟩
  exact hrest b0 _ _ _ _ _ _ _ h6 h7 h8 h9
theorem region_app7 {id : Nat} {W : World} {X0 : Array Obj} {d0 : Nat} {a : Act} {l : Array Oper} (hs : List (Nat × Bool)) (ts : List Nat) (last : Nat) (tm : TypeId) (cs : List Value) (j : Nat) (e e0 : TypeId) (lo : Nat) (v : Value) (n : Nat) (xs : List Value) (hK : Carried K e tm T) (hR : ∀ u, Carried (R u) e tm T) (hm : P.follows .mixedOrders = true) (hB : stageW l hs ts last = true) (hown : (more W X0 d0).ownsRow W.heap.size e 1 v n xs) (hT : (more W X0 d0).heap[T]? = some (.cells ⟨cs⟩ tm (0, 0))) (hka : K (more W X0 d0))
    (h : headW P l (fun w => (∃ z : Tail, w = more W z.X z.d) ∧ w.heap[T]? = some (.cells ⟨cs⟩ tm (0, 0)) ∧ K w) (fun _ => True) (tailW P l (app7Cl K R T tm cs j W e e0 lo v n xs) Q fin7 last ts (0, undef, 0, undef)) hs a) : (Code.region id l true).wp P Q a (more W X0 d0) :=
  region_stageW (S := Nat × Value × Nat × Value) (Cl := app7Cl K R T tm cs j W e e0 lo v n xs) hs ts last fin7 (0, undef, 0, undef) rfl hm hB app7Cl_C (fun _ _ _ => trivial) (app7Cl_stays hK hR) ⟨⟨⟨X0, d0 + 1⟩, rfl⟩, hown, hT, hK.below _ _ hka (Below.drew (Below.refl _ _))⟩ h
end
end Go.Proofs.YtpfmcobkfofbjaaGreat
namespace Go.Proofs.YtpfmcobkfofbjaaGreat
open Go Go.RowKit
/-- A row of one's own comes back. -/
def GivesRow (w : World) (e : TypeId) (s n : Nat) (xs : List Value) (x : Ending) (w' : World) : Prop := ∃ u, x = .returned u ∧ w'.ownsRow w.heap.size e s u n xs ∧ Below w.heap.size w w'
theorem sl_add {w : World} {ad : Addr} {s n : Nat} {C : Nat → List Value} (h : Sl w (some ad) s n C) (hC : ∀ i, i < n → (C i).length = s) (hs : 0 < s) : ∀ j u, (flat s n C)[j]? = some u → w.cell? (ad.add j) = some u := by
  intro j u hu
  have hj := (List.getElem?_eq_some_iff.1 hu).1
  rw [flat_len hC] at hj
  have hn : 0 < n := by
    rcases Nat.eq_zero_or_pos n with h0 | h0
    · subst h0; omega
    · exact h0
  obtain ⟨b, o, he, _, hc⟩ := h hn
  obtain rfl : ad = ⟨b, o, none⟩ := by simpa using he
  have h1 : j / s < n := Nat.div_lt_of_lt_mul (by rw [Nat.mul_comm]; exact hj)
  have h2 : j % s < s := Nat.mod_lt _ hs
  have h3 : j / s * s + j % s = j := Nat.div_add_mod' j s
  have h4 := flat_get hC (j / s) h1 (j % s) h2
  rw [h3, hu] at h4
  have e : (⟨b, o, none⟩ : Addr).add j = ⟨b, o + j / s * s + j % s, none⟩ := by
    rw [Nat.add_assoc, h3]; simp [Addr.add]
  rw [e, hc _ h1 _ h2, ← h4]
theorem flat_ints (ts : List Int) : flat 1 ts.length (intAt ts) = ts.map (.int .i64) := by
  apply List.ext_getElem?
  intro j
  by_cases hj : j < ts.length
  · have h := flat_get (s := 1) (n := ts.length) (C := intAt ts) (fun _ _ => rfl) j hj 0 (by omega)
    rw [Nat.mul_one, Nat.add_zero] at h
    rw [h, List.getElem?_map, List.getElem?_eq_getElem hj]
    simp [intAt, List.getD_eq_getElem?_getD, List.getElem?_eq_getElem hj]
  · rw [List.getElem?_eq_none (by rw [flat_len (s := 1) (C := intAt ts) (fun _ _ => rfl)]; omega), List.getElem?_eq_none (by simp; omega)]
set_option maxRecDepth 100000 in
theorem clone_ints (a : Option Addr) (cap : Nat) (ts : List Int) (n : Nat) (HN : Hid (ts.length = n)) (w : World) (hr : Sl w a 1 n (intAt ts)) (hn : n ≤ 1048576) :
    Calls Tryz.prog 40 #[.slice a n cap] w (GivesRow w 3 1 n (ts.map (.int .i64))) := by
  cases a with
  | none =>
    have h0 : n = 0 := by
      rcases Nat.eq_zero_or_pos n with h0 | h0
      · exact h0
      · obtain ⟨b, o, he, _⟩ := hr h0
        cases he
    subst h0
    have hts : ts = [] := List.eq_nil_of_length_eq_zero HN.out
    subst hts
    go_enter Tryz.func40, Tryz.ntmps40
    go_wp2
    go_ret
    exact ⟨_, rfl, by simpa using World.ownsRow_nil _ _ _ _, (by repeat (first | exact Below.refl _ _ | refine Below.drew ?_ | refine Below.alloc ?_ (by first | exact Nat.le_refl _ | (simp; done) | (simp; omega) | omega) _ | refine Below.more ?_ (by first | exact Nat.le_refl _ | (simp; done) | (simp; omega) | omega) _ _ | refine Below.setCell ?_ (by first | exact Nat.le_refl _ | (simp; done) | (simp; omega) | omega) _ | assumption))⟩
  | some ad =>
    have HC := Lib.hid (show ∀ j u, (ts.map (.int .i64) : List Value)[j]? = some u → w.cell? (ad.add j) = some u from by
      have h := sl_add hr (fun _ _ => rfl) (by decide)
      rw [← HN.out, flat_ints] at h; exact h)
    have HL := Lib.hid (show (ts.map (.int .i64) : List Value).length = n * 1 from by rw [List.length_map, HN.out, Nat.mul_one])
    have HO := Lib.hid (show ∀ u ∈ (ts.map (.int .i64) : List Value), u.oneCell' = true from fun u hu => by
      obtain ⟨z, _, rfl⟩ := List.mem_map.1 hu
      rfl)
    clear hr
    generalize (ts.map (.int .i64) : List Value) = vals at *
    obtain ⟨i0, hi, hz0, hz1, hz2⟩ := info_parts info_IntA
    go_enter Tryz.func40, Tryz.ntmps40
    go_wp2_with (at_builtin; go_loud (refine wpList_append_any _ rfl _ _ 45 rfl w.heap.size 3 i0 _ 1 8 Tryz.underlying45 hi hz0 hz1 hz2 rfl (by decide) _ 0 [] rfl (World.ownsRow_made (size := 1) w #[] 0 (Nat.le_refl _) (by decide) (by simp)) ad n cap vals rfl HL.out ?b2 HO.out ?b4 ?b5 ?b6 ?_))
    case b2 =>
      intro j u hu
      have h := HC.out j u hu
      exact (Below.cell (show Below w.heap.size w (w.alloc (.cells #[] 3)) from (by repeat (first | exact Below.refl _ _ | refine Below.drew ?_ | refine Below.alloc ?_ (by first | exact Nat.le_refl _ | (simp; done) | (simp; omega) | omega) _ | refine Below.more ?_ (by first | exact Nat.le_refl _ | (simp; done) | (simp; omega) | omega) _ _ | refine Below.setCell ?_ (by first | exact Nat.le_refl _ | (simp; done) | (simp; omega) | omega) _ | assumption))) (World.block_lt_of_cell? _ _ h)).trans h
    case b4 => simp only [maxLen]; omega
    case b5 => omega
    case b6 => simp
    intro v' w' hp' hb'
    have HP' := Lib.hid hp'
    have HB' := Lib.hid hb'
    clear hp' hb'
    go_wp2
    go_ret
    refine ⟨_, rfl, by simpa using HP'.out, Below.trans (show Below w.heap.size w _ from (by repeat (first | exact Below.refl _ _ | refine Below.drew ?_ | refine Below.alloc ?_ (by first | exact Nat.le_refl _ | (simp; done) | (simp; omega) | omega) _ | refine Below.more ?_ (by first | exact Nat.le_refl _ | (simp; done) | (simp; omega) | omega) _ _ | refine Below.setCell ?_ (by first | exact Nat.le_refl _ | (simp; done) | (simp; omega) | omega) _ | assumption))) HB'.out⟩
@[go_sem] theorem eqlv_nil (w : World) (a : Option Addr) (l c : Nat) : (binOp .eql 27 (.slice a l c) (.slice none 0 0)).run Tryz.prog w = .ok (.bool a.isNone) w := by
  simp only [binOp]
  simp [run_equal_slice_nil w _ _ a l c Tryz.underlying27]
set_option maxRecDepth 100000 in
theorem clone_vecs (a : Option Addr) (cap : Nat) (ts : List VecD) (n : Nat) (HN : Hid (ts.length = n)) (w : World) (hr : Sl w a 3 n (VecD.at ts)) (hn : n ≤ 1048576) :
    Calls Tryz.prog 39 #[.slice a n cap] w (GivesRow w 43 3 n (vecVals ts)) := by
  cases a with
  | none =>
    have h0 : n = 0 := by
      rcases Nat.eq_zero_or_pos n with h0 | h0
      · exact h0
      · obtain ⟨b, o, he, _⟩ := hr h0
        cases he
    subst h0
    have hts : ts = [] := List.eq_nil_of_length_eq_zero HN.out
    subst hts
    go_enter Tryz.func39, Tryz.ntmps39
    go_wp2
    go_ret
    exact ⟨_, rfl, World.ownsRow_nil _ _ _ _, (by repeat (first | exact Below.refl _ _ | refine Below.drew ?_ | refine Below.alloc ?_ (by first | exact Nat.le_refl _ | (simp; done) | (simp; omega) | omega) _ | refine Below.more ?_ (by first | exact Nat.le_refl _ | (simp; done) | (simp; omega) | omega) _ _ | refine Below.setCell ?_ (by first | exact Nat.le_refl _ | (simp; done) | (simp; omega) | omega) _ | assumption))⟩
  | some ad =>
    have HC := Lib.hid (show ∀ j u, (vecVals ts)[j]? = some u → w.cell? (ad.add j) = some u from by
      have h := sl_add hr (fun _ _ => rfl) (by decide)
      rw [← HN.out] at h; exact h)
    have HL := Lib.hid (show (vecVals ts).length = n * 3 from by rw [vecVals, flat_len (s := 3) (C := VecD.at ts) (fun _ _ => rfl), HN.out])
    have HO := Lib.hid (show ∀ u ∈ vecVals ts, u.oneCell' = true from fun u hu => by
      obtain ⟨l, hl, hu⟩ := List.mem_flatten.1 hu
      obtain ⟨i, _, rfl⟩ := List.mem_map.1 hl
      simp only [VecD.at, List.mem_cons, List.not_mem_nil, or_false] at hu
      rcases hu with rfl | rfl | rfl <;> rfl)
    clear hr
    generalize vecVals ts = vals at *
    obtain ⟨i0, hi, hz0, hz1, hz2⟩ := info_parts info_VecA
    go_enter Tryz.func39, Tryz.ntmps39
    go_wp2_with (at_builtin; go_loud (refine wpList_append_any _ rfl _ _ 27 rfl w.heap.size 43 i0 _ 3 24 Tryz.underlying27 hi hz0 hz1 hz2 rfl (by decide) _ 0 [] rfl (World.ownsRow_made (size := 3) w #[] 0 (Nat.le_refl _) (by decide) (by simp)) ad n cap vals rfl HL.out ?b2 HO.out ?b4 ?b5 ?b6 ?_))
    case b2 =>
      intro j u hu
      have h := HC.out j u hu
      exact (Below.cell (show Below w.heap.size w (w.alloc (.cells #[] 43)) from (by repeat (first | exact Below.refl _ _ | refine Below.drew ?_ | refine Below.alloc ?_ (by first | exact Nat.le_refl _ | (simp; done) | (simp; omega) | omega) _ | refine Below.more ?_ (by first | exact Nat.le_refl _ | (simp; done) | (simp; omega) | omega) _ _ | refine Below.setCell ?_ (by first | exact Nat.le_refl _ | (simp; done) | (simp; omega) | omega) _ | assumption))) (World.block_lt_of_cell? _ _ h)).trans h
    case b4 => simp only [maxLen]; omega
    case b5 => omega
    case b6 => simp
    intro v' w' hp' hb'
    have HP' := Lib.hid hp'
    have HB' := Lib.hid hb'
    clear hp' hb'
    go_wp2
    go_ret
    refine ⟨_, rfl, by simpa using HP'.out, Below.trans (show Below w.heap.size w _ from (by repeat (first | exact Below.refl _ _ | refine Below.drew ?_ | refine Below.alloc ?_ (by first | exact Nat.le_refl _ | (simp; done) | (simp; omega) | omega) _ | refine Below.more ?_ (by first | exact Nat.le_refl _ | (simp; done) | (simp; omega) | omega) _ _ | refine Below.setCell ?_ (by first | exact Nat.le_refl _ | (simp; done) | (simp; omega) | omega) _ | assumption))) HB'.out⟩
end Go.Proofs.YtpfmcobkfofbjaaGreat
namespace Go.Proofs.YtpfmcobkfofbjaaGreat
open Go Go.RowKit
def emptyM : MeshD := ⟨[], [], 0, 0, rfl, rfl⟩
open Classical in
/-- k rounds. -/
noncomputable def subIt (p : MeshD) : Nat → Option MeshD
  | 0 => some p
  | k + 1 => match subIt p k with
    | none => none
    | some q => if subOk q then some (subD q) else none
theorem subIt_yes {p q : MeshD} {k : Nat} (h : subIt p k = some q) (hq : subB q = true) : subIt p (k + 1) = some (subD q) := by
  have h1 : subOk q := by simpa [subB] using hq
  simp only [subIt, h]
  rw [if_pos h1]
theorem subIt_no {p q : MeshD} {k : Nat} (h : subIt p k = some q) (hq : subB q = false) : subIt p (k + 1) = none := by
  have h1 : ¬ subOk q := by simpa [subB] using hq
  simp only [subIt, h]
  rw [if_neg h1]
theorem subIt_none {p : MeshD} {k : Nat} (h : subIt p k = none) : ∀ d, subIt p (k + d) = none
  | 0 => h
  | d + 1 => by
    rw [← Nat.add_assoc]
    simp only [subIt, subIt_none h d]
open Classical in
noncomputable def subNB (p : MeshD) (n : Int) : Bool := decide (meshOk p ∧ (0 ≤ n ∧ n ≤ 3) ∧ (subIt p n.toNat).isSome = true)
open Classical in
noncomputable def subND (p : MeshD) (n : Int) : MeshD := if meshOk p ∧ (0 ≤ n ∧ n ≤ 3) then (subIt p n.toNat).getD emptyM else emptyM
theorem subN_bad {p : MeshD} {n : Int} (h : meshOkB p = false ∨ inB n 0 3 = false) : subNB p n = false ∧ subND p n = emptyM := by
  have h1 : ¬ (meshOk p ∧ (0 ≤ n ∧ n ≤ 3)) := by
    rintro ⟨h2, h3⟩
    rcases h with h | h
    · rw [meshOkB_true.2 h2] at h; cases h
    · rw [inB_true.2 h3] at h; cases h
  exact ⟨by simp only [subNB, decide_eq_false_iff_not]; exact fun h2 => h1 ⟨h2.1, h2.2.1⟩, by rw [subND, if_neg h1]⟩
theorem subN_yes {p q : MeshD} {N : Nat} (h : meshOkB p = true) (hN : N ≤ 3) (hq : subIt p N = some q) : subNB p (N : Int) = true ∧ subND p (N : Int) = q := by
  have h1 : meshOk p ∧ (0 ≤ (N : Int) ∧ (N : Int) ≤ 3) := ⟨meshOkB_true.1 h, by omega, by omega⟩
  refine ⟨?_, ?_⟩
  · simp only [subNB, decide_eq_true_eq, Int.toNat_natCast]
    exact ⟨h1.1, h1.2, by rw [hq]; rfl⟩
  · rw [subND, if_pos h1, Int.toNat_natCast, hq]; rfl
theorem subN_no {p : MeshD} {N : Nat} (hq : subIt p N = none) : subNB p (N : Int) = false ∧ subND p (N : Int) = emptyM := by
  refine ⟨?_, ?_⟩
  · simp only [subNB, decide_eq_false_iff_not, Int.toNat_natCast]
    intro h
    rw [hq] at h
    exact absurd h.2.2 (by decide)
  · unfold subND
    split
    · rw [Int.toNat_natCast, hq]; rfl
    · rfl
theorem put2 {w : World} {B : Nat} {T : TypeId} {z0 z1 : Value} (h : w.heap[B]? = some (.cells #[z0, z1] T (0, 0))) (v0 v1 : Value) :
    ((w.setCell ⟨B, 0, none⟩ v0).setCell ⟨B, 1, none⟩ v1).heap[B]? = some (.cells #[v0, v1] T (0, 0)) := by
  simp [World.setCell, Array.getElem?_modify, h]
theorem run_append_none (w : World) (base : Nat) (t ty e : TypeId) (i : TypeInfo) (size : Nat) (ht : Tryz.prog.underlying t = some (.slice e)) (hi : Tryz.prog.info? e = some i)
    (v : Value) (n c : Nat) (xs : List Value) (hown : w.ownsRow base e size v n xs) :
    (Builtin.append_ #[t, t] ty #[v, .slice none 0 c]).run Tryz.prog w = .ok v w := by
  rcases hown.2 with ⟨rfl, rfl⟩ | ⟨g, cap, cur, rfl, _, _, hnc, _⟩
  · simp [Builtin.append_, run_underlying ht, sizeOf, typeInfo, hi, Builtin.lenOf, Builtin.firstCells]
  · simp [Builtin.append_, run_underlying ht, sizeOf, typeInfo, hi, Builtin.lenOf, Builtin.firstCells, hnc, storeCells]
theorem wpList_append_none {w : World} {ops : Array Oper} {rest : List Oper} {o : Oper} {a : Act} {Q : Exit → Act → World → Prop} (hgd : o.guard = none) (s x : Operand) (t : TypeId)
    (ho : o.op = .call { callee := .builtin .append, args := #[s, x], argTypes := #[t, t] })
    (base : Nat) (e : TypeId) (i : TypeInfo) (size : Nat) (ht : Tryz.prog.underlying t = some (.slice e)) (hi : Tryz.prog.info? e = some i)
    (v : Value) (n c : Nat) (xs : List Value) (hs : a.eval s = v) (hown : w.ownsRow base e size v n xs) (hx : a.eval x = .slice none 0 c)
    (h : wpList Tryz.prog ops Q rest (a.put o.dst v) w) : wpList Tryz.prog ops Q (o :: rest) a w := by
  refine wpList_plain hgd fun K hK => ?_
  have hrun := run_append_none w base t o.type e i size ht hi v n c xs hown
  unfold Oper.wp
  simp [execOp, ho, resolve, invoke, builtin, hs, hx, hrun, Result.andThen]
  exact hK _ _ h
theorem wpList_append_sl (w : World) {ops : Array Oper} {rest : List Oper} {o : Oper} {ac : Act} {Q : Exit → Act → World → Prop} (hgd : o.guard = none) (s x : Operand) (t : TypeId)
    (ho : o.op = .call { callee := .builtin .append, args := #[s, x], argTypes := #[t, t] }) (base : Nat)
    (e : TypeId) (i : TypeInfo) (z : Value) (size bytes : Nat) (ht : Tryz.prog.underlying t = some (.slice e)) (hi : Tryz.prog.info? e = some i) (hz : i.zero = some z)
    (hsize : i.size = size) (hby : i.bytes = bytes) (hzs : z.cells.size = size) (hsz : 0 < size)
    (v : Value) (n : Nat) (xs : List Value) (hs : ac.eval s = v) (hown : w.ownsRow base e size v n xs)
    (a : Option Addr) (m c : Nat) (C : Nat → List Value) (hx : ac.eval x = .slice a m c) (hsl : Sl w a size m C) (hC : ∀ i, i < m → (C i).length = size) (h1 : ∀ u ∈ flat size m C, u.oneCell' = true)
    (h63 : n + m ≤ maxLen) (hbytes : (n + m) * bytes ≤ 140737488355328) (hbase : base ≤ w.heap.size)
    (h : ∀ v' w', w'.ownsRow base e size v' (n + m) (xs ++ flat size m C) → Below base w w' → wpList Tryz.prog ops Q rest (ac.put o.dst v') w') : wpList Tryz.prog ops Q (o :: rest) ac w := by
  cases a with
  | none =>
    have h0 : m = 0 := by
      rcases Nat.eq_zero_or_pos m with h0 | h0
      · exact h0
      · obtain ⟨b, o, he, _⟩ := hsl h0
        cases he
    subst h0
    exact wpList_append_none hgd s x t ho base e i size ht hi v n c xs hs hown hx (h v w (by simpa [flat] using hown) (Below.refl _ _))
  | some ad => exact wpList_append_any w hgd s x t ho base e i z size bytes ht hi hz hsize hby hzs hsz v n xs hs hown ad m c (flat size m C) hx (flat_len hC) (sl_add hsl hC hsz) h1 h63 hbytes hbase h
theorem run_append_made (w : World) (t ty e : TypeId) (i : TypeInfo) (z : Value) (size bytes : Nat) (ht : Tryz.prog.underlying t = some (.slice e)) (hi : Tryz.prog.info? e = some i) (hz : i.zero = some z)
    (hsize : i.size = size) (hby : i.bytes = bytes) (hzs : z.cells.size = size) (hsz : 0 < size) (b a : Addr) (m c : Nat) (news : List Value) (hl : news.length = m * size) (hnews : ∀ j u, news[j]? = some u → w.cell? (a.add j) = some u) (h1 : ∀ u ∈ news, u.oneCell' = true)
    (h0 : 0 < m) (h63 : m ≤ 1048576) (hbytes : m * bytes ≤ 140737488355328) :
    ∃ v' w', (Builtin.append_ #[t, t] ty #[.slice (some b) 0 0, .slice (some a) m c]).run Tryz.prog w = .ok v' w' ∧ w'.ownsRow w.heap.size e size v' m news ∧ Below w.heap.size w w' := by
  obtain ⟨v', w', hr, ho, hg, _⟩ := run_append_own_at (P := Tryz.prog) w w.heap.size t ty e i z size bytes ht hi hz hsize hby hzs hsz (.slice none 0 0) 0 [] (World.ownsRow_nil _ _ _ _) a m c news hl hnews h1 (by simp only [maxLen]; omega) (by rw [Nat.zero_add]; exact hbytes) (Nat.le_refl _)
  refine ⟨v', w', ?_, by simpa using ho, Below.grown (Below.refl _ _) hg (Nat.le_refl _) (fun k hk => by cases hk)⟩
  subst hsize
  subst hby
  have h2 := run_append_nil (P := Tryz.prog) w t ty e i z ht hi hz a m c news hl hnews h0 (by omega) (by omega)
  have h3 := run_append_grow (P := Tryz.prog) w t ty e i z ht hi hz b 0 0 [] (by simp) (by simp) a m c news hl hnews (by omega) (by omega) (by rw [Nat.zero_add, nextslicecap_zero h0]; omega)
  rw [← hr, h2, h3]
  simp
theorem run_op_append {ac : Act} {o : Oper} {s x : Operand} {t : TypeId} (ho : o.op = .call { callee := .builtin .append, args := #[s, x], argTypes := #[t, t] }) {u1 u2 v' : Value} {w w' : World} (hs : ac.eval s = u1) (hx : ac.eval x = u2) (hr : (Builtin.append_ #[t, t] o.type #[u1, u2]).run Tryz.prog w = .ok v' w') : (execOp ac.eval o).run Tryz.prog w = .ok (.value v') w' := by
  unfold execOp
  simp only [ho, resolve, invoke, builtin, Sem.run_bind, Sem.run_pure, Result.andThen_ok, List.map_toArray, List.map_cons, List.map_nil, hs, hx, hr]
theorem vec_cells {n : Nat} {l : List VecD} : ∀ u ∈ flat 3 n (VecD.at l), u.oneCell' = true := fun u hu => by
  obtain ⟨k, hk, hu⟩ := List.mem_flatten.1 hu
  obtain ⟨i, _, rfl⟩ := List.mem_map.1 hk
  simp only [VecD.at, List.mem_cons, List.not_mem_nil, or_false] at hu
  rcases hu with rfl | rfl | rfl <;> rfl
theorem take_faces {l : List (List Int)} {k : Nat} (h : k < l.length) : l.take (k + 1) = l.take k ++ [faceAt l k] := by
  rw [List.take_succ_eq_append_getElem h, faceAt, List.getD_eq_getElem?_getD, List.getElem?_eq_getElem h]
  rfl
end Go.Proofs.YtpfmcobkfofbjaaGreat
namespace Go.Proofs.YtpfmcobkfofbjaaGreat
open Go Go.RowKit
set_option maxRecDepth 100000 in
set_option maxHeartbeats 8000000 in
theorem spec_SubdivideN_g (v : Value) (p : MeshD) (n : Int) (w : World) (hr : MeshR w v p) (hs : MeshSz 1048576 p) : Calls Tryz.prog 12 #[v, .int .i64 n] w (GivesM (subND p n) (subNB p n) w) := by
  cases hB : meshOkB p with
  | false =>
    have HN := Lib.hid (subN_bad (p := p) (n := n) (.inl hB))
    have HVM := Lib.hid (fun W (h : Below w.heap.size w W) => hB ▸ spec_IsValidMesh_c _ p W (hr.below h) hs)
    obtain ⟨a, c, a', c', rfl, h1, h2⟩ := hr
    clear h1 h2 hs
    go_enter Tryz.func12, Tryz.ntmps12
    go_wp2_with (go_at_call 17; refine (HVM.out _ (by repeat (first | exact Below.refl _ _ | refine Below.drew ?_ | refine Below.alloc ?_ (by first | exact Nat.le_refl _ | (simp; done) | (simp; omega) | omega) _ | refine Below.more ?_ (by first | exact Nat.le_refl _ | (simp; done) | (simp; omega) | omega) _ _ | refine Below.setCell ?_ (by first | exact Nat.le_refl _ | (simp; done) | (simp; omega) | omega) _ | assumption))).mono ?_; rintro e wn ⟨rfl, hbn⟩; obtain ⟨X, nX, rfl⟩ := Below.ext hbn; clear hbn)
    exact bodyPost_ret (v := .tuple #[.agg #[.slice none 0 0, .slice none 0 0], .bool false]) (by simp [results, Tryz.results12, go_sem]) rfl ⟨_, by rw [HN.out.1], by rw [HN.out.2]; exact MeshX.nil _ _ _ rfl rfl, (by repeat (first | exact Below.refl _ _ | refine Below.drew ?_ | refine Below.alloc ?_ (by first | exact Nat.le_refl _ | (simp; done) | (simp; omega) | omega) _ | refine Below.more ?_ (by first | exact Nat.le_refl _ | (simp; done) | (simp; omega) | omega) _ _ | refine Below.setCell ?_ (by first | exact Nat.le_refl _ | (simp; done) | (simp; omega) | omega) _ | assumption))⟩
  | true =>
  cases hin : inB n 0 3 with
  | false =>
    have HN := Lib.hid (subN_bad (p := p) (n := n) (.inr hin))
    have HVM := Lib.hid (fun W (h : Below w.heap.size w W) => hB ▸ spec_IsValidMesh_c _ p W (hr.below h) hs)
    obtain ⟨a, c, a', c', rfl, h1, h2⟩ := hr
    clear h1 h2 hs
    go_enter Tryz.func12, Tryz.ntmps12
    go_wp2_with (first | (go_at_call 17; refine (HVM.out _ (by repeat (first | exact Below.refl _ _ | refine Below.drew ?_ | refine Below.alloc ?_ (by first | exact Nat.le_refl _ | (simp; done) | (simp; omega) | omega) _ | refine Below.more ?_ (by first | exact Nat.le_refl _ | (simp; done) | (simp; omega) | omega) _ _ | refine Below.setCell ?_ (by first | exact Nat.le_refl _ | (simp; done) | (simp; omega) | omega) _ | assumption))).mono ?_; rintro e wn ⟨rfl, hbn⟩; obtain ⟨X, nX, rfl⟩ := Below.ext hbn; clear hbn) | (go_at_call 37; refine (l01In_c _ _ _ _).mono ?_; rw [hin]; rintro e w' ⟨rfl, rfl⟩))
    exact bodyPost_ret (v := .tuple #[.agg #[.slice none 0 0, .slice none 0 0], .bool false]) (by simp [results, Tryz.results12, go_sem]) rfl ⟨_, by rw [HN.out.1], by rw [HN.out.2]; exact MeshX.nil _ _ _ rfl rfl, (by repeat (first | exact Below.refl _ _ | refine Below.drew ?_ | refine Below.alloc ?_ (by first | exact Nat.le_refl _ | (simp; done) | (simp; omega) | omega) _ | refine Below.more ?_ (by first | exact Nat.le_refl _ | (simp; done) | (simp; omega) | omega) _ _ | refine Below.setCell ?_ (by first | exact Nat.le_refl _ | (simp; done) | (simp; omega) | omega) _ | assumption))⟩
  | true =>
  have hn3 := inB_true.1 hin
  obtain ⟨N, rfl⟩ : ∃ N : Nat, n = (N : Int) := ⟨n.toNat, by omega⟩
  have hN3 : N ≤ 3 := by omega
  have HYES := Lib.hid (fun q (hq : subIt p N = some q) => subN_yes hB hN3 hq)
  have HNO := Lib.hid (fun (hq : subIt p N = none) => subN_no hq)
  have hm := meshOkB_true.1 hB
  have HVM := Lib.hid (fun W (h : Below w.heap.size w W) => hB ▸ spec_IsValidMesh_c _ p W (hr.below h) hs)
  have hv80 := hm.1
  have hf64 := hm.2.1
  have HF4 := Lib.hid (fun i (hi : i < p.nF) => (hm.2.2.2.1 i hi).1)
  have HVL := Lib.hid p.hV
  have HFL := Lib.hid p.hF
  obtain ⟨a, c, a', c', rfl, h1, h2⟩ := hr
  obtain ⟨FA, FK, h2a, h2b, _⟩ := h2
  have HSA := Lib.hid h1
  have HSF := Lib.hid h2a
  have HSB := Lib.hid h2b
  clear h1 h2a h2b hm hs hn3 hB
  have H0 := Lib.hid (show subIt p 0 = some p from rfl)
  have HST := Lib.hid (fun (k : Nat) (q : MeshD) (h : subIt p k = some q) => (⟨subIt_yes h, fun h2 => subIt_none (subIt_no h h2)⟩ : (subB q = true → subIt p (k + 1) = some (subD q)) ∧ (subB q = false → ∀ d, subIt p (k + 1 + d) = none)))
  generalize subNB p (N : Int) = RB at *
  generalize subND p (N : Int) = RD at *
  go_enter Tryz.func12, Tryz.ntmps12
  go_upto_region 3 with (first | (go_at_call 17; refine (HVM.out _ (by repeat (first | exact Below.refl _ _ | refine Below.drew ?_ | refine Below.alloc ?_ (by first | exact Nat.le_refl _ | (simp; done) | (simp; omega) | omega) _ | refine Below.more ?_ (by first | exact Nat.le_refl _ | (simp; done) | (simp; omega) | omega) _ _ | refine Below.setCell ?_ (by first | exact Nat.le_refl _ | (simp; done) | (simp; omega) | omega) _ | assumption))).mono ?_; rintro e wn ⟨rfl, hbn⟩; obtain ⟨X, nX, rfl⟩ := Below.ext hbn; clear hbn) | (go_at_call 37; refine (l01In_c _ _ _ _).mono ?_; rw [hin]; rintro e w' ⟨rfl, rfl⟩))
  obtain ⟨wx, hwx⟩ : ∃ wx, wx = more ((w.alloc (.cells #[.slice a p.nV c, .slice a' p.nF c'] 29)).alloc (.cells #[.slice none 0 0, .slice none 0 0] 29)) X nX := ⟨_, rfl⟩
  rw [← hwx]
  have HBQ : Hid (Below w.heap.size w wx) := Lib.hid (by rw [hwx]; exact (by repeat (first | exact Below.refl _ _ | refine Below.drew ?_ | refine Below.alloc ?_ (by first | exact Nat.le_refl _ | (simp; done) | (simp; omega) | omega) _ | refine Below.more ?_ (by first | exact Nat.le_refl _ | (simp; done) | (simp; omega) | omega) _ _ | refine Below.setCell ?_ (by first | exact Nat.le_refl _ | (simp; done) | (simp; omega) | omega) _ | assumption)))
  have n0 : wx.cell? ⟨w.heap.size, 0, none⟩ = some (.slice a p.nV c) := by rw [hwx]; simp [go_sem]
  have n1 : wx.cell? ⟨w.heap.size, 1, none⟩ = some (.slice a' p.nF c') := by rw [hwx]; simp [go_sem]
  have n2 : wx.heap[w.heap.size + 1]? = some (.cells #[.slice none 0 0, .slice none 0 0] 29 (0, 0)) := by
    rw [hwx, Below.block (w' := more ((w.alloc (.cells #[.slice a p.nV c, .slice a' p.nF c'] 29)).alloc (.cells #[.slice none 0 0, .slice none 0 0] 29)) X nX) (Below.more (Below.refl _ _) (Nat.le_refl _) _ _) _ (by simp)]
    exact heap_at_new (by simp)
  have hl2 := (Array.getElem?_eq_some_iff.1 n2).1
  clear hwx
  obtain ⟨i0, hi0, hy0, hy1, hy2⟩ := info_parts info_VecA
  have hm0 := World.block_lt_of_cell? _ _ n0
  have HSV := Lib.hid (show Sl (wx.alloc (.cells #[] 43)) a 3 p.nV (VecD.at p.verts) from (HSA.out.below HBQ.out).below (Below.alloc (Below.refl _ _) (Nat.le_refl _) _))
  have HVC := Lib.hid (vec_cells (n := p.nV) (l := p.verts))
  have HFV := Lib.hid (show flat 3 p.nV (VecD.at p.verts) = vecVals p.verts from by rw [vecVals, HVL.out])
  go_wp2_with (at_builtin; go_loud (refine wpList_append_sl _ rfl _ _ 27 rfl wx.heap.size 43 i0 _ 3 24 Tryz.underlying27 hi0 hy0 hy1 hy2 rfl (by decide) _ 0 [] rfl (World.ownsRow_made (size := 3) wx #[] 0 (Nat.le_refl _) (by decide) (by simp)) a p.nV c (VecD.at p.verts) rfl HSV.out (fun _ _ => rfl) HVC.out ?v4 ?v5 ?v6 ?_))
  case v4 => simp only [maxLen]; omega
  case v5 => omega
  intro u w2 ho hb
  rw [HFV.out] at ho
  replace hb := Below.trans (show Below wx.heap.size wx (wx.alloc (.cells #[] 43)) from (by repeat (first | exact Below.refl _ _ | refine Below.drew ?_ | refine Below.alloc ?_ (by first | exact Nat.le_refl _ | (simp; done) | (simp; omega) | omega) _ | refine Below.more ?_ (by first | exact Nat.le_refl _ | (simp; done) | (simp; omega) | omega) _ _ | refine Below.setCell ?_ (by first | exact Nat.le_refl _ | (simp; done) | (simp; omega) | omega) _ | assumption))) hb
  obtain ⟨ua, uc, rfl⟩ := own_shape ho
  have HO := Lib.hid ho
  have HB2 := Lib.hid hb
  have hws := hb.size
  have m0 := cell_below hb n0
  have m1 := cell_below hb n1
  have hm1 := World.block_lt_of_cell? _ _ m0
  clear ho hb
  go_wp2
  have HOB : Hid (Below w2.heap.size w2 (w2.alloc (.cells #[.slice ua p.nV uc, .slice none 0 0] 29))) := Lib.hid (by repeat (first | exact Below.refl _ _ | refine Below.drew ?_ | refine Below.alloc ?_ (by first | exact Nat.le_refl _ | (simp; done) | (simp; omega) | omega) _ | refine Below.more ?_ (by first | exact Nat.le_refl _ | (simp; done) | (simp; omega) | omega) _ _ | refine Below.setCell ?_ (by first | exact Nat.le_refl _ | (simp; done) | (simp; omega) | omega) _ | assumption))
  obtain ⟨wy, hwy⟩ : ∃ wy, wy = w2.alloc (.cells #[.slice ua p.nV uc, .slice none 0 0] 29) := ⟨_, rfl⟩
  have hTc : wy.heap[w2.heap.size]? = some (.cells #[.slice ua p.nV uc, .slice none 0 0] 29 (0, 0)) := by rw [hwy]; exact heap_alloc_new _ _
  rw [← hwy] at HOB ⊢
  have HBY := Lib.hid (HB2.out.trans (HOB.out.mono hws))
  have HOY := Lib.hid (own_kept HO.out HOB.out)
  have hT : wx.heap.size ≤ w2.heap.size := hws
  have HTC := Lib.hid hTc
  clear hwy HOB HO HB2 hTc hws m0 m1 hm1
  generalize w2.heap.size = T at *
  go_loopw [28] (fun i wr => ∃ (k : Nat) (fs : Value), k ≤ p.nF ∧ i = .int .i64 k ∧ Below wx.heap.size wx wr ∧ wr.heap[T]? = some (.cells #[.slice ua p.nV uc, fs] 29 (0, 0)) ∧ wr.ownsRow wx.heap.size 43 3 (.slice ua p.nV uc) p.nV (vecVals p.verts) ∧ FacesG wx.heap.size k fs (p.faces.take k) wr) (fun i _ => p.nF - (intOf i).toNat)
  case atStart => exact ⟨0, _, Nat.zero_le _, rfl, HBY.out, HTC.out, HOY.out, by rw [List.take_zero]; exact FacesG.nil _ _⟩
  case round =>
    clear HBY HTC HOY
    obtain ⟨k, fs, hk, rfl, hbr, hTr, hown, hft⟩ := hrel
    have HOWN := Lib.hid hown
    have HTR := Lib.hid hTr
    have HFT := Lib.hid hft
    have hTl := (Array.getElem?_eq_some_iff.1 hTr).1
    have HBR := Lib.hid hbr
    have hrs := hbr.size
    clear hown hTr hft
    by_cases hlt : k < p.nF
    · have hk1 : (k : Int) < (p.nF : Int) := by omega
      have HTK := Lib.hid (take_faces (l := p.faces) (k := k) (by rw [HFL.out]; exact hlt))
      have hlk : (p.faces.take k).length = k := by rw [List.length_take, HFL.out]; omega
      obtain ⟨fb, fo, rfl, hfb, hfc⟩ := (HSF.out.below HBQ.out) (by omega)
      have g0 : wx.cell? ⟨fb, fo + k, none⟩ = some (.slice (FA k) 4 (FK k)) := by have := hfc k hlt 0 (by omega); rw [Nat.mul_one, Nat.add_zero] at this; rw [this, ← HF4.out k hlt]; rfl
      clear hfc
      have HFB := Lib.hid (show Sl wx (FA k) 1 4 (intAt (faceAt p.faces k)) from by have h := (HSB.out k hlt).below HBQ.out; rwa [HF4.out k hlt] at h)
      have HF4K := Lib.hid (HF4.out k hlt)
      have HLK := Lib.hid hlk
      generalize p.faces.take k = FF at *
      generalize faceAt p.faces k = fk at *
      generalize FA k = fa at *
      generalize FK k = fkc at *
      obtain ⟨U, g1, g2, g3⟩ := HFT.out
      have HU1 : Hid (wr.ownsRow wx.heap.size 45 1 fs k ((List.range k).map U)) := Lib.hid g1
      have HU2 : Hid (FaceRows wx.heap.size k U FF wr) := Lib.hid g2
      have HU3 := Lib.hid g3
      have HR4 : Hid (∀ i, i < k → wr.ownsRow wx.heap.size 3 1 (U i) 4 ((FF.getD i []).map (.int .i64))) := Lib.hid fun i hi => (g2 i hi).2
      obtain ⟨S0, hS0⟩ : ∃ s, s = wr.heap.size := ⟨_, rfl⟩
      have HS0 := Lib.hid hS0
      have hS0x : wx.heap.size ≤ S0 := by rw [hS0]; exact hrs
      clear g1 g2 g3 hS0 hlk hrs
      obtain ⟨i1, hi, hz0, hz1, hz2⟩ := info_parts info_Ints
      obtain ⟨X4, d4, rfl⟩ := Below.ext hbr
      go_wp2
      refine region_app7 (K := fun w => (w.ownsRow wx.heap.size 43 3 (.slice ua p.nV uc) p.nV (vecVals p.verts) ∧ FaceRows wx.heap.size k U FF w) ∧ S0 ≤ w.heap.size) (R := fun u w => w.ownsRow S0 3 1 u 4 (fk.map (.int .i64))) [(0, true), (1, true), (3, true)] [2, 4, 5, 6, 7, 8] 8 29 [.slice ua p.nV uc, fs] 1 45 3 0 fs k ((List.range k).map U) (carried_and (carried_and (own_carried _ _ _ _ _ _ _ _ _ (by decide) (by decide)) (face_rows_carried _ _ _ _ _ _ _ (by decide) (by decide))) (size_carried _ _ _ _)) (fun u => own_carried _ _ _ _ _ _ _ _ _ (by decide) (by decide)) (by kernel_rfl) (by kernel_rfl) HU1.out HTR.out ⟨⟨HOWN.out, HU2.out⟩, by rw [HS0.out]; exact Nat.le_refl _⟩ ?_
      refine headW_step rfl (fun K hK => ?_)
      go_simp
      refine ⟨_, fun zt ht k1 k2 k3 => rfl, hK _ ?_⟩
      clear hK K
      refine headW_step rfl (fun K hK => ?_)
      go_simp
      refine ⟨fs, fun zt ht k1 k2 k3 => (by have c := cell_at (j := 1) ht rfl; simp [c, Result.andThen]), hK _ ?_⟩
      clear hK K
      refine headW_step rfl (fun K hK => ?_)
      go_simp
      refine ⟨_, fun zt ht k1 k2 k3 => rfl, hK _ ?_⟩
      clear hK K
      refine headW_nil ?_
      refine tail_app7 (t := 23) (u := .pointer (some ⟨T, 1, none⟩)) (carried_and (carried_and (own_carried _ _ _ _ _ _ _ _ _ (by decide) (by decide)) (face_rows_carried _ _ _ _ _ _ _ (by decide) (by decide))) (size_carried _ _ _ _)) (fun u => own_carried _ _ _ _ _ _ _ _ _ (by decide) (by decide)) (fun u w h => by obtain ⟨a, c, e⟩ := own_shape h; exact ⟨_, _, _, e⟩) hT (by decide) rfl rfl rfl rfl rfl rfl _ _ (fun _ _ => Nat.zero_le _) (by go_simp) (fun w => by go_simp) (fun b0 => by go_simp) (fun b0 w hz hT0 hk hbe hbl => ?hA) (fun b0 ua un uc => by go_simp) (fun b0 ua un uc w => by go_simp) (fun b0 ua un uc b => by go_simp) rfl Tryz.underlying23 hi hz0 hz1 hz2 rfl (fun b0 ua un uc b => by first | rfl | go_simp) (fun b0 ua un uc b => by first | rfl | go_simp) (by simp only [maxLen]; omega) (by omega) (fun b0 ua un uc b v' => by go_simp) (fun b0 ua un uc b v' w => by go_simp) (fun b0 ua un uc b v' => by go_simp) (fun b0 ua un uc b va vc w hw => ?hS6) (fun b0 ua un uc b v5 X5 d5 h1 h2 h3 h4 => ?hr6)
      case hA =>
        obtain ⟨_, hsz⟩ := hk
        obtain ⟨z, rfl⟩ := hz
        obtain ⟨qb, qo, rfl, _, _⟩ := HFB.out (by decide)
        obtain ⟨i2, hi2, hx0, hx1, hx2⟩ := info_parts info_IntA
        have HCL := Lib.hid (show ∀ j u, (fk.map (.int .i64) : List Value)[j]? = some u → (more wx z.X z.d).cell? ((⟨qb, qo, none⟩ : Addr).add j) = some u from by
          have h := sl_add (HFB.out.below (w' := more wx z.X z.d) (by repeat (first | exact Below.refl _ _ | refine Below.drew ?_ | refine Below.alloc ?_ (by first | exact Nat.le_refl _ | (simp; done) | (simp; omega) | omega) _ | refine Below.more ?_ (by first | exact Nat.le_refl _ | (simp; done) | (simp; omega) | omega) _ _ | refine Below.setCell ?_ (by first | exact Nat.le_refl _ | (simp; done) | (simp; omega) | omega) _ | assumption))) (fun _ _ => rfl) (by decide)
          rw [← HF4K.out, flat_ints] at h; exact h)
        obtain ⟨v6, w6, hr6, ho6, hb6⟩ := run_append_made (more wx z.X z.d) 45 45 3 i2 _ 1 8 Tryz.underlying45 hi2 hx0 hx1 hx2 rfl (by decide) ⟨b0, 0, none⟩ ⟨qb, qo, none⟩ 4 fkc (fk.map (.int .i64)) (by rw [List.length_map, HF4K.out]) HCL.out (fun u hu => by
          obtain ⟨y, _, rfl⟩ := List.mem_map.1 hu
          rfl) (by decide) (by decide) (by decide)
        exact gives_value (u := v6) (w' := w6) (run_op_append rfl (by first | rfl | go_simp) (by first | rfl | go_simp) hr6) ⟨hb6, own_base ho6 hsz⟩
      case hS6 => go_simp
      case hr6 =>
        have HT5 := Lib.hid h2
        have HO5 := Lib.hid h1
        have HK5 := Lib.hid h3
        have HR5 := Lib.hid h4
        clear h1 h2 h3 h4
        simp only [Act.put, List.setIfInBounds_toArray, List.set_cons_zero, List.set_cons_succ]
        go_wp2
        refine ⟨⟨k + 1, v5, by omega, by first | rfl | go_num, (by repeat (first | exact Below.refl _ _ | refine Below.drew ?_ | refine Below.alloc ?_ (by first | exact Nat.le_refl _ | (simp; done) | (simp; omega) | omega) _ | refine Below.more ?_ (by first | exact Nat.le_refl _ | (simp; done) | (simp; omega) | omega) _ _ | refine Below.setCell ?_ (by first | exact Nat.le_refl _ | (simp; done) | (simp; omega) | omega) _ | assumption)), by simpa using HT5.out, HK5.out.1.1, ?_⟩, by simp only [intOf]; omega⟩
        rw [HTK.out]
        exact facesG_snoc (w0 := more wx X4 d4) HLK.out HF4K.out HR4.out (by rw [HS0.out]; exact Nat.le_refl _) hS0x HO5.out HK5.out.1.2 HR5.out HU3.out
    · have hk1 : ¬ (k : Int) < (p.nF : Int) := by omega
      obtain rfl : k = p.nF := by omega
      have HMX := Lib.hid (meshX_g (p := p) HOWN.out (by have h := HFT.out; rwa [List.take_of_length_le (by rw [HFL.out]; exact Nat.le_refl _)] at h) (by omega) (by omega))
      clear HOWN HFT
      go_wp2
      have HTR2 := HTR
      clear HTR
      go_loopw [1] (fun nv wr2 => ∃ (k : Nat) (q : MeshD) (y z : Value), k ≤ N ∧ nv = .int .i64 ((N - k : Nat) : Int) ∧ subIt p k = some q ∧ Below wx.heap.size wx wr2 ∧ wr2.heap[T]? = some (.cells #[y, z] 29 (0, 0)) ∧ MeshX wr2 wx.heap.size wr2.heap.size (.agg #[y, z]) q none) (fun nv _ => (intOf nv).toNat)
      case atStart => exact ⟨0, p, _, _, Nat.zero_le _, rfl, H0.out, HBR.out, HTR2.out, HMX.out⟩
      case round =>
        clear HBR HTR2 HMX hbr hrs hTl
        obtain ⟨k, q, y, z, hk, rfl, hq, hbr, hT2, hmx⟩ := hrel
        obtain ⟨ya, yc, za, zc, hform⟩ := hmx.form
        simp only [Value.agg.injEq, Array.mk.injEq, List.cons.injEq, and_true] at hform
        obtain ⟨rfl, rfl⟩ := hform
        have HMQ := Lib.hid hmx
        have HQ := Lib.hid hq
        have HT2 := Lib.hid hT2
        have HBR := Lib.hid hbr
        have hrs := hbr.size
        have t0 := cell_at (j := 0) hT2 rfl
        have t1 := cell_at (j := 1) hT2 rfl
        have hTl := (Array.getElem?_eq_some_iff.1 hT2).1
        have HN2 := Lib.hid (heap_keep n2 hbr)
        clear hmx hq hT2 hbr
        by_cases hlt : k < N
        · have hp : (0 : Int) < ((N - k : Nat) : Int) := by omega
          go_wp2_with fail
          refine (spec_Subdivide_g _ q wr HMQ.out.r HMQ.out.sz).mono ?_
          rintro e w3 ⟨v3, rfl, hm3, hb3⟩
          obtain ⟨y3a, y3c, z3a, z3c, rfl⟩ := hm3.form
          have HM3 := Lib.hid hm3
          have HB3 := Lib.hid hb3
          have hT3 := heap_keep HT2.out hb3
          have T0 := cell_at (j := 0) hT3 rfl
          have T1 := cell_at (j := 1) hT3 rfl
          have Y0 := frozen_at (j := 0) hT3
          have Y1 := frozen_at (j := 1) hT3
          have hl3 := (Array.getElem?_eq_some_iff.1 hT3).1
          have hn3 := heap_keep HN2.out hb3
          have R0 := cell_at (j := 0) hn3 rfl
          have R1 := cell_at (j := 1) hn3 rfl
          have Z0 := frozen_at (j := 0) hn3
          have Z1 := frozen_at (j := 1) hn3
          have hl4 := (Array.getElem?_eq_some_iff.1 hn3).1
          have hs3 := hb3.size
          have HT3 := Lib.hid hT3
          clear hm3 hb3 hT3 hn3
          cases hsb : subB q
          · have hno := HNO.out (by have h := (HST.out k q HQ.out).2 hsb (N - (k + 1)); rwa [show k + 1 + (N - (k + 1)) = N by omega] at h)
            have HNN := Lib.hid hno
            clear hno hsb
            go_wp2
            exact bodyPost_ret (v := .tuple #[.agg #[.slice none 0 0, .slice none 0 0], .bool false]) (by simp [results, Tryz.results12, go_sem, R0, R1, Z0, Z1, hl4]) rfl ⟨_, by rw [HNN.out.1], by rw [HNN.out.2]; exact MeshX.nil _ _ _ rfl rfl, HBQ.out.trans ((HBR.out.trans (HB3.out.mono hrs)).mono HBQ.out.size |>.trans (by repeat (first | exact Below.refl _ _ | refine Below.drew ?_ | refine Below.alloc ?_ (by first | exact Nat.le_refl _ | (simp; done) | (simp; omega) | omega) _ | refine Below.more ?_ (by first | exact Nat.le_refl _ | (simp; done) | (simp; omega) | omega) _ _ | refine Below.setCell ?_ (by first | exact Nat.le_refl _ | (simp; done) | (simp; omega) | omega) _ | assumption)))⟩
          · have HQ2 := Lib.hid ((HST.out k q HQ.out).1 hsb)
            clear hsb
            go_wp2
            have hb := HBR.out.trans (HB3.out.mono hrs)
            refine ⟨⟨k + 1, subD q, _, _, by omega, by rw [show ((N - k : Nat) : Int) - 1 = ((N - (k + 1) : Nat) : Int) by omega], HQ2.out, (by repeat (first | exact Below.refl _ _ | refine Below.drew ?_ | refine Below.alloc ?_ (by first | exact Nat.le_refl _ | (simp; done) | (simp; omega) | omega) _ | refine Below.more ?_ (by first | exact Nat.le_refl _ | (simp; done) | (simp; omega) | omega) _ _ | refine Below.setCell ?_ (by first | exact Nat.le_refl _ | (simp; done) | (simp; omega) | omega) _ | assumption)), (heap_alloc_old _ _ (by simp; omega)).trans (put2 HT3.out _ _), ?_⟩, by simp only [intOf]; omega⟩
            exact ((HM3.out.chg (chg_set2 _ _ _ _) (.inr (by omega))).below (Below.alloc (Below.refl _ _) (Nat.le_refl _) _)).wide hrs (by simp)
        · have hp : ¬ (0 : Int) < ((N - k : Nat) : Int) := by omega
          obtain rfl : k = N := by omega
          have R := HN2.out
          have R0 := cell_at (j := 0) R rfl
          have R1 := cell_at (j := 1) R rfl
          have Z0 := frozen_at (j := 0) R
          have Z1 := frozen_at (j := 1) R
          have hl4 := (Array.getElem?_eq_some_iff.1 R).1
          have HYY := Lib.hid (HYES.out q HQ.out)
          clear R
          go_wp2
          have hb := HBQ.out.trans (HBR.out.mono HBQ.out.size)
          refine bodyPost_ret (v := .tuple #[.agg #[.slice ya q.nV yc, .slice za q.nF zc], .bool true]) (by simp [results, Tryz.results12, go_sem, R0, R1, Z0, Z1, hl4]) rfl ⟨_, by rw [HYY.out.1], ?_, (by repeat (first | exact Below.refl _ _ | refine Below.drew ?_ | refine Below.alloc ?_ (by first | exact Nat.le_refl _ | (simp; done) | (simp; omega) | omega) _ | refine Below.more ?_ (by first | exact Nat.le_refl _ | (simp; done) | (simp; omega) | omega) _ _ | refine Below.setCell ?_ (by first | exact Nat.le_refl _ | (simp; done) | (simp; omega) | omega) _ | assumption))⟩
          rw [HYY.out.2]
          exact (HMQ.out.chg (chg_set2 _ _ _ _) (.inr (by omega))).wide (by omega) (by simp)
end Go.Proofs.YtpfmcobkfofbjaaGreat
namespace Go.Proofs.YtpfmcobkfofbjaaGreat
open Go Go.RowKit
set_option maxRecDepth 100000 in
set_option maxHeartbeats 8000000 in
theorem impl_SubdivideN_g (v : Value) (p : MeshD) (n : Int) (w : World) (hr : MeshR w v p) (hs : MeshSz 1048576 p) : Calls Tryz.prog 13 #[v, .int .i64 n] w (GivesM (subND p n) (subNB p n) w) := by
  cases hB : meshOkB p with
  | false =>
    have HN := Lib.hid (subN_bad (p := p) (n := n) (.inl hB))
    have HVM := Lib.hid (fun W (h : Below w.heap.size w W) => hB ▸ impl_IsValidMesh_c _ p W (hr.below h) hs)
    obtain ⟨a, c, a', c', rfl, h1, h2⟩ := hr
    clear h1 h2 hs
    go_enter Tryz.func13, Tryz.ntmps13
    go_wp2_with (go_at_call 24; refine (HVM.out _ (by repeat (first | exact Below.refl _ _ | refine Below.drew ?_ | refine Below.alloc ?_ (by first | exact Nat.le_refl _ | (simp; done) | (simp; omega) | omega) _ | refine Below.more ?_ (by first | exact Nat.le_refl _ | (simp; done) | (simp; omega) | omega) _ _ | refine Below.setCell ?_ (by first | exact Nat.le_refl _ | (simp; done) | (simp; omega) | omega) _ | assumption))).mono ?_; rintro e wn ⟨rfl, hbn⟩; obtain ⟨X, nX, rfl⟩ := Below.ext hbn; clear hbn)
    exact bodyPost_ret (v := .tuple #[.agg #[.slice none 0 0, .slice none 0 0], .bool false]) (by simp [results, Tryz.results13, go_sem]) rfl ⟨_, by rw [HN.out.1], by rw [HN.out.2]; exact MeshX.nil _ _ _ rfl rfl, (by repeat (first | exact Below.refl _ _ | refine Below.drew ?_ | refine Below.alloc ?_ (by first | exact Nat.le_refl _ | (simp; done) | (simp; omega) | omega) _ | refine Below.more ?_ (by first | exact Nat.le_refl _ | (simp; done) | (simp; omega) | omega) _ _ | refine Below.setCell ?_ (by first | exact Nat.le_refl _ | (simp; done) | (simp; omega) | omega) _ | assumption))⟩
  | true =>
  cases hin : inB n 0 3 with
  | false =>
    have HN := Lib.hid (subN_bad (p := p) (n := n) (.inr hin))
    have HVM := Lib.hid (fun W (h : Below w.heap.size w W) => hB ▸ impl_IsValidMesh_c _ p W (hr.below h) hs)
    obtain ⟨a, c, a', c', rfl, h1, h2⟩ := hr
    clear h1 h2 hs
    go_enter Tryz.func13, Tryz.ntmps13
    go_wp2_with (first | (go_at_call 24; refine (HVM.out _ (by repeat (first | exact Below.refl _ _ | refine Below.drew ?_ | refine Below.alloc ?_ (by first | exact Nat.le_refl _ | (simp; done) | (simp; omega) | omega) _ | refine Below.more ?_ (by first | exact Nat.le_refl _ | (simp; done) | (simp; omega) | omega) _ _ | refine Below.setCell ?_ (by first | exact Nat.le_refl _ | (simp; done) | (simp; omega) | omega) _ | assumption))).mono ?_; rintro e wn ⟨rfl, hbn⟩; obtain ⟨X, nX, rfl⟩ := Below.ext hbn; clear hbn) | (go_at_call 38; refine (within_c _ _ _ _).mono ?_; rw [hin]; rintro e w' ⟨rfl, rfl⟩))
    exact bodyPost_ret (v := .tuple #[.agg #[.slice none 0 0, .slice none 0 0], .bool false]) (by simp [results, Tryz.results13, go_sem]) rfl ⟨_, by rw [HN.out.1], by rw [HN.out.2]; exact MeshX.nil _ _ _ rfl rfl, (by repeat (first | exact Below.refl _ _ | refine Below.drew ?_ | refine Below.alloc ?_ (by first | exact Nat.le_refl _ | (simp; done) | (simp; omega) | omega) _ | refine Below.more ?_ (by first | exact Nat.le_refl _ | (simp; done) | (simp; omega) | omega) _ _ | refine Below.setCell ?_ (by first | exact Nat.le_refl _ | (simp; done) | (simp; omega) | omega) _ | assumption))⟩
  | true =>
  have hn3 := inB_true.1 hin
  obtain ⟨N, rfl⟩ : ∃ N : Nat, n = (N : Int) := ⟨n.toNat, by omega⟩
  have hN3 : N ≤ 3 := by omega
  have HYES := Lib.hid (fun q (hq : subIt p N = some q) => subN_yes hB hN3 hq)
  have HNO := Lib.hid (fun (hq : subIt p N = none) => subN_no hq)
  have hm := meshOkB_true.1 hB
  have HVM := Lib.hid (fun W (h : Below w.heap.size w W) => hB ▸ impl_IsValidMesh_c _ p W (hr.below h) hs)
  have hv80 := hm.1
  have hf64 := hm.2.1
  have HF4 := Lib.hid (fun i (hi : i < p.nF) => (hm.2.2.2.1 i hi).1)
  have HVL := Lib.hid p.hV
  have HFL := Lib.hid p.hF
  obtain ⟨a, c, a', c', rfl, h1, h2⟩ := hr
  obtain ⟨FA, FK, h2a, h2b, _⟩ := h2
  have HSA := Lib.hid h1
  have HSF := Lib.hid h2a
  have HSB := Lib.hid h2b
  clear h1 h2a h2b hm hs hn3 hB
  have H0 := Lib.hid (show subIt p 0 = some p from rfl)
  have HST := Lib.hid (fun (k : Nat) (q : MeshD) (h : subIt p k = some q) => (⟨subIt_yes h, fun h2 => subIt_none (subIt_no h h2)⟩ : (subB q = true → subIt p (k + 1) = some (subD q)) ∧ (subB q = false → ∀ d, subIt p (k + 1 + d) = none)))
  generalize subNB p (N : Int) = RB at *
  generalize subND p (N : Int) = RD at *
  go_enter Tryz.func13, Tryz.ntmps13
  go_wp2_with (first | (go_at_call 24; refine (HVM.out _ (by repeat (first | exact Below.refl _ _ | refine Below.drew ?_ | refine Below.alloc ?_ (by first | exact Nat.le_refl _ | (simp; done) | (simp; omega) | omega) _ | refine Below.more ?_ (by first | exact Nat.le_refl _ | (simp; done) | (simp; omega) | omega) _ _ | refine Below.setCell ?_ (by first | exact Nat.le_refl _ | (simp; done) | (simp; omega) | omega) _ | assumption))).mono ?_; rintro e wn ⟨rfl, hbn⟩; obtain ⟨X, nX, rfl⟩ := Below.ext hbn; clear hbn) | (go_at_call 38; refine (within_c _ _ _ _).mono ?_; rw [hin]; rintro e w' ⟨rfl, rfl⟩))
  obtain ⟨wx, hwx⟩ : ∃ wx, wx = more ((w.alloc (.cells #[.slice a p.nV c, .slice a' p.nF c'] 29)).alloc (.cells #[.slice none 0 0, .slice none 0 0] 29)) X nX := ⟨_, rfl⟩
  rw [← hwx]
  have HBQ : Hid (Below w.heap.size w wx) := Lib.hid (by rw [hwx]; exact (by repeat (first | exact Below.refl _ _ | refine Below.drew ?_ | refine Below.alloc ?_ (by first | exact Nat.le_refl _ | (simp; done) | (simp; omega) | omega) _ | refine Below.more ?_ (by first | exact Nat.le_refl _ | (simp; done) | (simp; omega) | omega) _ _ | refine Below.setCell ?_ (by first | exact Nat.le_refl _ | (simp; done) | (simp; omega) | omega) _ | assumption)))
  have n0 : wx.cell? ⟨w.heap.size, 0, none⟩ = some (.slice a p.nV c) := by rw [hwx]; simp [go_sem]
  have n1 : wx.cell? ⟨w.heap.size, 1, none⟩ = some (.slice a' p.nF c') := by rw [hwx]; simp [go_sem]
  have n2 : wx.heap[w.heap.size + 1]? = some (.cells #[.slice none 0 0, .slice none 0 0] 29 (0, 0)) := by
    rw [hwx, Below.block (w' := more ((w.alloc (.cells #[.slice a p.nV c, .slice a' p.nF c'] 29)).alloc (.cells #[.slice none 0 0, .slice none 0 0] 29)) X nX) (Below.more (Below.refl _ _) (Nat.le_refl _) _ _) _ (by simp)]
    exact heap_at_new (by simp)
  have hl2 := (Array.getElem?_eq_some_iff.1 n2).1
  clear hwx
  refine (clone_vecs a c p.verts p.nV HVL wx (HSA.out.below HBQ.out) (by omega)).mono ?_
  rintro e w2 ⟨u, rfl, ho, hb⟩
  obtain ⟨ua, uc, rfl⟩ := own_shape ho
  have HO := Lib.hid ho
  have HB2 := Lib.hid hb
  have m0 := cell_below hb n0
  have m1 := cell_below hb n1
  have hm0 := World.block_lt_of_cell? _ _ m0
  have hws := hb.size
  clear ho hb
  go_wp2
  have HOB : Hid (Below w2.heap.size w2 (w2.alloc (.cells #[.slice ua p.nV uc, .slice none 0 0] 29))) := Lib.hid (by repeat (first | exact Below.refl _ _ | refine Below.drew ?_ | refine Below.alloc ?_ (by first | exact Nat.le_refl _ | (simp; done) | (simp; omega) | omega) _ | refine Below.more ?_ (by first | exact Nat.le_refl _ | (simp; done) | (simp; omega) | omega) _ _ | refine Below.setCell ?_ (by first | exact Nat.le_refl _ | (simp; done) | (simp; omega) | omega) _ | assumption))
  obtain ⟨wy, hwy⟩ : ∃ wy, wy = w2.alloc (.cells #[.slice ua p.nV uc, .slice none 0 0] 29) := ⟨_, rfl⟩
  have hTc : wy.heap[w2.heap.size]? = some (.cells #[.slice ua p.nV uc, .slice none 0 0] 29 (0, 0)) := by rw [hwy]; exact heap_alloc_new _ _
  rw [← hwy] at HOB ⊢
  have HBY := Lib.hid (HB2.out.trans (HOB.out.mono hws))
  have HOY := Lib.hid (own_kept HO.out HOB.out)
  have hT : wx.heap.size ≤ w2.heap.size := hws
  have HTC := Lib.hid hTc
  clear hwy HOB HO HB2 hTc m0 m1 hm0 hws
  generalize w2.heap.size = T at *
  go_loopw [27] (fun i wr => ∃ (k : Nat) (fs : Value), k ≤ p.nF ∧ i = .int .i64 k ∧ Below wx.heap.size wx wr ∧ wr.heap[T]? = some (.cells #[.slice ua p.nV uc, fs] 29 (0, 0)) ∧ wr.ownsRow wx.heap.size 43 3 (.slice ua p.nV uc) p.nV (vecVals p.verts) ∧ FacesG wx.heap.size k fs (p.faces.take k) wr) (fun i _ => p.nF - (intOf i).toNat)
  case atStart => exact ⟨0, _, Nat.zero_le _, rfl, HBY.out, HTC.out, HOY.out, by rw [List.take_zero]; exact FacesG.nil _ _⟩
  case round =>
    clear HBY HTC HOY
    obtain ⟨k, fs, hk, rfl, hbr, hTr, hown, hft⟩ := hrel
    have HOWN := Lib.hid hown
    have HTR := Lib.hid hTr
    have HFT := Lib.hid hft
    have hTl := (Array.getElem?_eq_some_iff.1 hTr).1
    have HBR := Lib.hid hbr
    have hrs := hbr.size
    clear hown hTr hft
    by_cases hlt : k < p.nF
    · have hk1 : (k : Int) < (p.nF : Int) := by omega
      have HTK := Lib.hid (take_faces (l := p.faces) (k := k) (by rw [HFL.out]; exact hlt))
      have hlk : (p.faces.take k).length = k := by rw [List.length_take, HFL.out]; omega
      obtain ⟨fb, fo, rfl, hfb, hfc⟩ := (HSF.out.below HBQ.out) (by omega)
      have g0 : wx.cell? ⟨fb, fo + k, none⟩ = some (.slice (FA k) 4 (FK k)) := by have := hfc k hlt 0 (by omega); rw [Nat.mul_one, Nat.add_zero] at this; rw [this, ← HF4.out k hlt]; rfl
      clear hfc
      have HFB := Lib.hid (show Sl wx (FA k) 1 4 (intAt (faceAt p.faces k)) from by have h := (HSB.out k hlt).below HBQ.out; rwa [HF4.out k hlt] at h)
      have HF4K := Lib.hid (HF4.out k hlt)
      have HLK := Lib.hid hlk
      generalize p.faces.take k = FF at *
      generalize faceAt p.faces k = fk at *
      generalize FA k = fa at *
      generalize FK k = fkc at *
      obtain ⟨U, g1, g2, g3⟩ := HFT.out
      have HU1 : Hid (wr.ownsRow wx.heap.size 45 1 fs k ((List.range k).map U)) := Lib.hid g1
      have HU2 : Hid (FaceRows wx.heap.size k U FF wr) := Lib.hid g2
      have HU3 := Lib.hid g3
      have HR4 : Hid (∀ i, i < k → wr.ownsRow wx.heap.size 3 1 (U i) 4 ((FF.getD i []).map (.int .i64))) := Lib.hid fun i hi => (g2 i hi).2
      obtain ⟨S0, hS0⟩ : ∃ s, s = wr.heap.size := ⟨_, rfl⟩
      have HS0 := Lib.hid hS0
      have hS0x : wx.heap.size ≤ S0 := by rw [hS0]; exact hrs
      clear g1 g2 g3 hS0 hlk hrs
      obtain ⟨i1, hi, hz0, hz1, hz2⟩ := info_parts info_Ints
      obtain ⟨X4, d4, rfl⟩ := Below.ext hbr
      go_wp2
      refine region_app6 (K := fun w => (w.ownsRow wx.heap.size 43 3 (.slice ua p.nV uc) p.nV (vecVals p.verts) ∧ FaceRows wx.heap.size k U FF w) ∧ S0 ≤ w.heap.size) (R := fun u w => w.ownsRow S0 3 1 u 4 (fk.map (.int .i64))) [(0, true), (1, true), (2, true)] [3, 4, 5, 6, 7] 7 29 [.slice ua p.nV uc, fs] 1 45 fs k ((List.range k).map U) (carried_and (carried_and (own_carried _ _ _ _ _ _ _ _ _ (by decide) (by decide)) (face_rows_carried _ _ _ _ _ _ _ (by decide) (by decide))) (size_carried _ _ _ _)) (fun u => own_carried _ _ _ _ _ _ _ _ _ (by decide) (by decide)) (by kernel_rfl) (by kernel_rfl) HU1.out HTR.out ⟨⟨HOWN.out, HU2.out⟩, by rw [HS0.out]; exact Nat.le_refl _⟩ ?_
      refine headW_step rfl (fun K hK => ?_)
      go_simp
      refine ⟨_, fun zt ht k1 k2 k3 => rfl, hK _ ?_⟩
      clear hK K
      refine headW_step rfl (fun K hK => ?_)
      go_simp
      refine ⟨fs, fun zt ht k1 k2 k3 => (by have c := cell_at (j := 1) ht rfl; simp [c, Result.andThen]), hK _ ?_⟩
      clear hK K
      refine headW_step rfl (fun K hK => ?_)
      go_simp
      refine ⟨_, fun zt ht k1 k2 k3 => rfl, hK _ ?_⟩
      clear hK K
      refine headW_nil ?_
      refine tail_app6 (t := 23) (u := .pointer (some ⟨T, 1, none⟩)) (carried_and (carried_and (own_carried _ _ _ _ _ _ _ _ _ (by decide) (by decide)) (face_rows_carried _ _ _ _ _ _ _ (by decide) (by decide))) (size_carried _ _ _ _)) (fun u => own_carried _ _ _ _ _ _ _ _ _ (by decide) (by decide)) (fun u w h => by obtain ⟨a, c, e⟩ := own_shape h; exact ⟨_, _, _, e⟩) hT (by decide) rfl rfl rfl rfl rfl _ _ (by go_simp) (fun w hz hT0 hk => ?hA) (fun ua un uc => by go_simp) (fun ua un uc w => by go_simp) (fun ua un uc b => by go_simp) rfl Tryz.underlying23 hi hz0 hz1 hz2 rfl (fun ua un uc b => by first | rfl | go_simp) (fun ua un uc b => by first | rfl | go_simp) (by simp only [maxLen]; omega) (by omega) (fun ua un uc b v' => by go_simp) (fun ua un uc b v' w => by go_simp) (fun ua un uc b v' => by go_simp) (fun ua un uc b va vc w hw => ?hS6) (fun ua un uc b v5 X5 d5 h1 h2 h3 h4 => ?hr6)
      case hA =>
        obtain ⟨_, hsz⟩ := hk
        obtain ⟨z, rfl⟩ := hz
        have HCI := clone_ints fa fkc fk 4 HF4K (more wx z.X z.d) (HFB.out.below (by repeat (first | exact Below.refl _ _ | refine Below.drew ?_ | refine Below.alloc ?_ (by first | exact Nat.le_refl _ | (simp; done) | (simp; omega) | omega) _ | refine Below.more ?_ (by first | exact Nat.le_refl _ | (simp; done) | (simp; omega) | omega) _ _ | refine Below.setCell ?_ (by first | exact Nat.le_refl _ | (simp; done) | (simp; omega) | omega) _ | assumption))) (by omega)
        refine gives_call (HCI.mono (R' := fun e w'' => ∃ u, e = .returned u ∧ Below (more wx z.X z.d).heap.size (more wx z.X z.d) w'' ∧ w''.ownsRow S0 3 1 u 4 (fk.map (.int .i64))) ?_) (by go_simp)
        rintro e w5 ⟨u5, rfl, ho5, hb5⟩
        exact ⟨u5, rfl, hb5, own_base ho5 hsz⟩
      case hS6 => go_simp
      case hr6 =>
        have HT5 := Lib.hid h2
        have HO5 := Lib.hid h1
        have HK5 := Lib.hid h3
        have HR5 := Lib.hid h4
        clear h1 h2 h3 h4
        simp only [Act.put, List.setIfInBounds_toArray, List.set_cons_zero, List.set_cons_succ]
        go_wp2
        refine ⟨⟨k + 1, v5, by omega, by first | rfl | go_num, (by repeat (first | exact Below.refl _ _ | refine Below.drew ?_ | refine Below.alloc ?_ (by first | exact Nat.le_refl _ | (simp; done) | (simp; omega) | omega) _ | refine Below.more ?_ (by first | exact Nat.le_refl _ | (simp; done) | (simp; omega) | omega) _ _ | refine Below.setCell ?_ (by first | exact Nat.le_refl _ | (simp; done) | (simp; omega) | omega) _ | assumption)), by simpa using HT5.out, HK5.out.1.1, ?_⟩, by simp only [intOf]; omega⟩
        rw [HTK.out]
        exact facesG_snoc (w0 := more wx X4 d4) HLK.out HF4K.out HR4.out (by rw [HS0.out]; exact Nat.le_refl _) hS0x HO5.out HK5.out.1.2 HR5.out HU3.out
    · have hk1 : ¬ (k : Int) < (p.nF : Int) := by omega
      obtain rfl : k = p.nF := by omega
      have HMX := Lib.hid (meshX_g (p := p) HOWN.out (by have h := HFT.out; rwa [List.take_of_length_le (by rw [HFL.out]; exact Nat.le_refl _)] at h) (by omega) (by omega))
      clear HOWN HFT
      go_wp2
      have HTR2 := HTR
      clear HTR
      go_loopw [1] (fun nv wr2 => ∃ (k : Nat) (q : MeshD) (y z : Value), k ≤ N ∧ nv = .int .i64 ((N - k : Nat) : Int) ∧ subIt p k = some q ∧ Below wx.heap.size wx wr2 ∧ wr2.heap[T]? = some (.cells #[y, z] 29 (0, 0)) ∧ MeshX wr2 wx.heap.size wr2.heap.size (.agg #[y, z]) q none) (fun nv _ => (intOf nv).toNat)
      case atStart => exact ⟨0, p, _, _, Nat.zero_le _, rfl, H0.out, HBR.out, HTR2.out, HMX.out⟩
      case round =>
        clear HBR HTR2 HMX hbr hrs hTl
        obtain ⟨k, q, y, z, hk, rfl, hq, hbr, hT2, hmx⟩ := hrel
        obtain ⟨ya, yc, za, zc, hform⟩ := hmx.form
        simp only [Value.agg.injEq, Array.mk.injEq, List.cons.injEq, and_true] at hform
        obtain ⟨rfl, rfl⟩ := hform
        have HMQ := Lib.hid hmx
        have HQ := Lib.hid hq
        have HT2 := Lib.hid hT2
        have HBR := Lib.hid hbr
        have hrs := hbr.size
        have t0 := cell_at (j := 0) hT2 rfl
        have t1 := cell_at (j := 1) hT2 rfl
        have hTl := (Array.getElem?_eq_some_iff.1 hT2).1
        have HN2 := Lib.hid (heap_keep n2 hbr)
        clear hmx hq hT2 hbr
        by_cases hlt : k < N
        · have hp : (0 : Int) < ((N - k : Nat) : Int) := by omega
          go_wp2_with fail
          refine (impl_Subdivide_g _ q wr HMQ.out.r HMQ.out.sz).mono ?_
          rintro e w3 ⟨v3, rfl, hm3, hb3⟩
          obtain ⟨y3a, y3c, z3a, z3c, rfl⟩ := hm3.form
          have HM3 := Lib.hid hm3
          have HB3 := Lib.hid hb3
          have hT3 := heap_keep HT2.out hb3
          have T0 := cell_at (j := 0) hT3 rfl
          have T1 := cell_at (j := 1) hT3 rfl
          have Y0 := frozen_at (j := 0) hT3
          have Y1 := frozen_at (j := 1) hT3
          have hl3 := (Array.getElem?_eq_some_iff.1 hT3).1
          have hn3 := heap_keep HN2.out hb3
          have R0 := cell_at (j := 0) hn3 rfl
          have R1 := cell_at (j := 1) hn3 rfl
          have Z0 := frozen_at (j := 0) hn3
          have Z1 := frozen_at (j := 1) hn3
          have hl4 := (Array.getElem?_eq_some_iff.1 hn3).1
          have hs3 := hb3.size
          have HT3 := Lib.hid hT3
          clear hm3 hb3 hT3 hn3
          cases hsb : subB q
          · have hno := HNO.out (by have h := (HST.out k q HQ.out).2 hsb (N - (k + 1)); rwa [show k + 1 + (N - (k + 1)) = N by omega] at h)
            have HNN := Lib.hid hno
            clear hno hsb
            go_wp2
            exact bodyPost_ret (v := .tuple #[.agg #[.slice none 0 0, .slice none 0 0], .bool false]) (by simp [results, Tryz.results13, go_sem, R0, R1, Z0, Z1, hl4]) rfl ⟨_, by rw [HNN.out.1], by rw [HNN.out.2]; exact MeshX.nil _ _ _ rfl rfl, HBQ.out.trans ((HBR.out.trans (HB3.out.mono hrs)).mono HBQ.out.size |>.trans (by repeat (first | exact Below.refl _ _ | refine Below.drew ?_ | refine Below.alloc ?_ (by first | exact Nat.le_refl _ | (simp; done) | (simp; omega) | omega) _ | refine Below.more ?_ (by first | exact Nat.le_refl _ | (simp; done) | (simp; omega) | omega) _ _ | refine Below.setCell ?_ (by first | exact Nat.le_refl _ | (simp; done) | (simp; omega) | omega) _ | assumption)))⟩
          · have HQ2 := Lib.hid ((HST.out k q HQ.out).1 hsb)
            clear hsb
            go_wp2
            have hb := HBR.out.trans (HB3.out.mono hrs)
            refine ⟨⟨k + 1, subD q, _, _, by omega, by rw [show ((N - k : Nat) : Int) - 1 = ((N - (k + 1) : Nat) : Int) by omega], HQ2.out, (by repeat (first | exact Below.refl _ _ | refine Below.drew ?_ | refine Below.alloc ?_ (by first | exact Nat.le_refl _ | (simp; done) | (simp; omega) | omega) _ | refine Below.more ?_ (by first | exact Nat.le_refl _ | (simp; done) | (simp; omega) | omega) _ _ | refine Below.setCell ?_ (by first | exact Nat.le_refl _ | (simp; done) | (simp; omega) | omega) _ | assumption)), (heap_alloc_old _ _ (by simp; omega)).trans (put2 HT3.out _ _), ?_⟩, by simp only [intOf]; omega⟩
            exact ((HM3.out.chg (chg_set2 _ _ _ _) (.inr (by omega))).below (Below.alloc (Below.refl _ _) (Nat.le_refl _) _)).wide hrs (by simp)
        · have hp : ¬ (0 : Int) < ((N - k : Nat) : Int) := by omega
          obtain rfl : k = N := by omega
          have R := HN2.out
          have R0 := cell_at (j := 0) R rfl
          have R1 := cell_at (j := 1) R rfl
          have Z0 := frozen_at (j := 0) R
          have Z1 := frozen_at (j := 1) R
          have hl4 := (Array.getElem?_eq_some_iff.1 R).1
          have HYY := Lib.hid (HYES.out q HQ.out)
          clear R
          go_wp2
          have hb := HBQ.out.trans (HBR.out.mono HBQ.out.size)
          refine bodyPost_ret (v := .tuple #[.agg #[.slice ya q.nV yc, .slice za q.nF zc], .bool true]) (by simp [results, Tryz.results13, go_sem, R0, R1, Z0, Z1, hl4]) rfl ⟨_, by rw [HYY.out.1], ?_, (by repeat (first | exact Below.refl _ _ | refine Below.drew ?_ | refine Below.alloc ?_ (by first | exact Nat.le_refl _ | (simp; done) | (simp; omega) | omega) _ | refine Below.more ?_ (by first | exact Nat.le_refl _ | (simp; done) | (simp; omega) | omega) _ _ | refine Below.setCell ?_ (by first | exact Nat.le_refl _ | (simp; done) | (simp; omega) | omega) _ | assumption))⟩
          rw [HYY.out.2]
          exact (HMQ.out.chg (chg_set2 _ _ _ _) (.inr (by omega))).wide (by omega) (by simp)
end Go.Proofs.YtpfmcobkfofbjaaGreat
