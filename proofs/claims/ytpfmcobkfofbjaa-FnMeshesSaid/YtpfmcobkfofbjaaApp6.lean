/- App6, with App5 ahead of it. -/
import Derived.Test.YtpfmcobkfofbjaaApp4
import Derived.Test.YtpfmcobkfofbjaaStageW
namespace Go.Proofs.Ytpfmcobkfofbjaa
open Go Go.RowKit
section
variable {P : Program} {ops : Array Oper} {C : World → Prop} {Q : Exit → Act → World → Prop}
variable {K : World → Prop} {T j : Nat} {tm : TypeId} {cs : List Value}
theorem app4Cl_CK {W : World} {e : TypeId} {size n m : Nat} {v : Value} {xs news : List Value} : ∀ s w, fin4 s = false → app4Cl K T tm cs j W e size v n m xs news s w → (∃ z : Tail, w = more W z.X z.d) ∧ w.heap[T]? = some (.cells ⟨cs⟩ tm (0, 0)) ∧ K w
  | (0, _, _), _, _, h => ⟨h.1, h.2.2.1, h.2.2.2⟩
  | (1, _, _), _, _, h => ⟨h.1, h.2.2.1, h.2.2.2.1⟩
  | (2, _, _), _, _, h => ⟨h.1, h.2.2.1, h.2.2.2⟩
  | (_ + 3, _, _), _, hf, _ => by simp [fin4] at hf
theorem region_app4K {id : Nat} {W : World} {X0 : Array Obj} {d0 : Nat} {a : Act} {l : Array Oper} (hs ts : List Nat) (last : Nat) (tm : TypeId) (cs : List Value) (j : Nat) (e : TypeId) (size : Nat) (v : Value) (n m : Nat) (xs news : List Value) (hK : Carried K e tm T) (hm : P.follows .mixedOrders = true) (hB : stageF l hs ts last = true) (hown : (more W X0 d0).ownsRow W.heap.size e size v n xs) (hT : (more W X0 d0).heap[T]? = some (.cells ⟨cs⟩ tm (0, 0))) (hka : K (more W X0 d0))
    (h : headP P l (fun w => (∃ z : Tail, w = more W z.X z.d) ∧ w.heap[T]? = some (.cells ⟨cs⟩ tm (0, 0)) ∧ K w) (tailF P l (app4Cl K T tm cs j W e size v n m xs news) Q fin4 last ts (0, 0, undef)) hs a) : (Code.region id l true).wp P Q a (more W X0 d0) :=
  region_stageF (S := Nat × Nat × Value) (Cl := app4Cl K T tm cs j W e size v n m xs news) hs ts last fin4 (0, 0, undef) rfl hm hB app4Cl_CK (app4Cl_stays hK) ⟨⟨⟨X0, d0 + 1⟩, rfl⟩, hown, hT, hK.below _ _ hka (Below.drew (Below.refl _ _))⟩ h
end
end Go.Proofs.Ytpfmcobkfofbjaa
namespace Go.Proofs.Ytpfmcobkfofbjaa
open Go Go.RowKit
section
variable {P : Program} {ops : Array Oper} {Q : Exit → Act → World → Prop}
variable {K : World → Prop} {R : Value → World → Prop} {T j : Nat} {tm : TypeId} {cs : List Value}
def app6Cl (K : World → Prop) (R : Value → World → Prop) (T : Nat) (tm : TypeId) (cs : List Value) (j : Nat) (W : World) (e : TypeId) (v : Value) (n : Nat) (xs : List Value) : Nat × Value × Nat × Value → World → Prop
  | (0, _, _, _), w => (∃ z : Tail, w = more W z.X z.d) ∧ w.ownsRow W.heap.size e 1 v n xs ∧ w.heap[T]? = some (.cells ⟨cs⟩ tm (0, 0)) ∧ K w
  | (1, u, _, _), w => (∃ z : Tail, w = more W z.X z.d) ∧ w.ownsRow W.heap.size e 1 v n xs ∧ w.heap[T]? = some (.cells ⟨cs⟩ tm (0, 0)) ∧ K w ∧ R u w
  | (2, u, b, _), w => (∃ z : Tail, w = more W z.X z.d) ∧ w.ownsRow W.heap.size e 1 v n xs ∧ w.heap[T]? = some (.cells ⟨cs⟩ tm (0, 0)) ∧ K w ∧ R u w ∧ w.heap[b]? = some (.cells ⟨[u]⟩ e (0, 0))
  | (3, u, _, v'), w => (∃ z : Tail, w = more W z.X z.d) ∧ w.ownsRow W.heap.size e 1 v' (n + 1) (xs ++ [u]) ∧ w.heap[T]? = some (.cells ⟨cs⟩ tm (0, 0)) ∧ K w ∧ R u w
  | (_ + 4, u, _, v'), w => (∃ z : Tail, w = more W z.X z.d) ∧ w.ownsRow W.heap.size e 1 v' (n + 1) (xs ++ [u]) ∧ w.heap[T]? = some (.cells ⟨cs.set j v'⟩ tm (0, 0)) ∧ K w ∧ R u w
def fin6 (s : Nat × Value × Nat × Value) : Bool := decide (4 ≤ s.1)
theorem app6Cl_C {W : World} {e : TypeId} {n : Nat} {v : Value} {xs : List Value} : ∀ s w, fin6 s = false → app6Cl K R T tm cs j W e v n xs s w → (∃ z : Tail, w = more W z.X z.d) ∧ w.heap[T]? = some (.cells ⟨cs⟩ tm (0, 0)) ∧ K w
  | (0, _, _, _), _, _, h => ⟨h.1, h.2.2.1, h.2.2.2⟩
  | (1, _, _, _), _, _, h => ⟨h.1, h.2.2.1, h.2.2.2.1⟩
  | (2, _, _, _), _, _, h => ⟨h.1, h.2.2.1, h.2.2.2.1⟩
  | (3, _, _, _), _, _, h => ⟨h.1, h.2.2.1, h.2.2.2.1⟩
  | (_ + 4, _, _, _), _, hf, _ => by simp [fin6] at hf
theorem app6Cl_stays {W : World} {e : TypeId} {n : Nat} {v : Value} {xs : List Value} (hK : Carried K e tm T) (hR : ∀ u, Carried (R u) e tm T) : ∀ s w w', app6Cl K R T tm cs j W e v n xs s w → Below w.heap.size w w' → app6Cl K R T tm cs j W e v n xs s w'
  | (0, _, _, _), _, _, h, hb => ⟨ext_trans h.1 hb, own_kept h.2.1 hb, heap_keep h.2.2.1 hb, hK.below _ _ h.2.2.2 hb⟩
  | (1, _, _, _), _, _, h, hb => ⟨ext_trans h.1 hb, own_kept h.2.1 hb, heap_keep h.2.2.1 hb, hK.below _ _ h.2.2.2.1 hb, (hR _).below _ _ h.2.2.2.2 hb⟩
  | (2, _, _, _), _, _, h, hb => ⟨ext_trans h.1 hb, own_kept h.2.1 hb, heap_keep h.2.2.1 hb, hK.below _ _ h.2.2.2.1 hb, (hR _).below _ _ h.2.2.2.2.1 hb, heap_keep h.2.2.2.2.2 hb⟩
  | (3, _, _, _), _, _, h, hb => ⟨ext_trans h.1 hb, own_kept h.2.1 hb, heap_keep h.2.2.1 hb, hK.below _ _ h.2.2.2.1 hb, (hR _).below _ _ h.2.2.2.2 hb⟩
  | (_ + 4, _, _, _), _, _, h, hb => ⟨ext_trans h.1 hb, own_kept h.2.1 hb, heap_keep h.2.2.1 hb, hK.below _ _ h.2.2.2.1 hb, (hR _).below _ _ h.2.2.2.2 hb⟩
theorem tail_app6 {W : World} {e t : TypeId} {bytes n : Nat} {i : TypeInfo} {z v : Value} {xs : List Value} {oA oB oP oF oS : Oper} {iA iB iP iF iS : Nat} {a : Act} {u : Value} (hK : Carried K e tm T) (hR : ∀ u, Carried (R u) e tm T) (hone : ∀ u w, R u w → ∃ ua un uc, u = .slice ua un uc) (hT : W.heap.size ≤ T) (hte : tm ≠ e)
    (hiA : ops[iA]? = some oA) (hiB : ops[iB]? = some oB) (hiP : ops[iP]? = some oP) (hiF : ops[iF]? = some oF) (hiS : ops[iS]? = some oS) (s x : Operand)
    (hAw : Region.wanted oA (yielded ops a.tmps) = true)
    (hA : ∀ w, (∃ z : Tail, w = more W z.X z.d) → w.heap[T]? = some (.cells ⟨cs⟩ tm (0, 0)) → K w → Oper.givesAt P a oA (fun u w' => Below w.heap.size w w' ∧ R u w') w)
    (hBw : ∀ ua un uc, Region.wanted oB (yielded ops (a.put oA.dst (.slice ua un uc)).tmps) = true)
    (hB : ∀ ua un uc w, (execOp (a.put oA.dst (.slice ua un uc)).eval oB).run P w = .ok (.value (.slice (some ⟨w.heap.size, 0, none⟩) 1 1)) (w.alloc (.cells ⟨[.slice ua un uc]⟩ e)))
    (hPw : ∀ ua un uc b, Region.wanted oP (yielded ops ((a.put oA.dst (.slice ua un uc)).put oB.dst (.slice (some ⟨b, 0, none⟩) 1 1)).tmps) = true)
    (ho : oP.op = .call { callee := .builtin .append, args := #[s, x], argTypes := #[t, t] })
    (ht : P.underlying t = some (.slice e)) (hi : P.info? e = some i) (hz : i.zero = some z) (hsize : i.size = 1) (hby : i.bytes = bytes) (hzs : z.cells.size = 1)
    (hs : ∀ ua un uc b, ((a.put oA.dst (.slice ua un uc)).put oB.dst (.slice (some ⟨b, 0, none⟩) 1 1)).eval s = v) (hx : ∀ ua un uc b, ((a.put oA.dst (.slice ua un uc)).put oB.dst (.slice (some ⟨b, 0, none⟩) 1 1)).eval x = .slice (some ⟨b, 0, none⟩) 1 1)
    (h63 : n + 1 ≤ maxLen) (hbytes : (n + 1) * bytes ≤ 140737488355328)
    (hFw : ∀ ua un uc b v', Region.wanted oF (yielded ops (((a.put oA.dst (.slice ua un uc)).put oB.dst (.slice (some ⟨b, 0, none⟩) 1 1)).put oP.dst v').tmps) = true)
    (hF : ∀ ua un uc b v' w, (execOp (((a.put oA.dst (.slice ua un uc)).put oB.dst (.slice (some ⟨b, 0, none⟩) 1 1)).put oP.dst v').eval oF).run P w = .ok (.value u) w)
    (hSw : ∀ ua un uc b v', Region.wanted oS (yielded ops ((((a.put oA.dst (.slice ua un uc)).put oB.dst (.slice (some ⟨b, 0, none⟩) 1 1)).put oP.dst v').put oF.dst u).tmps) = true)
    (hS : ∀ ua un uc b va vc w, T < w.heap.size → (execOp ((((a.put oA.dst (.slice ua un uc)).put oB.dst (.slice (some ⟨b, 0, none⟩) 1 1)).put oP.dst (.slice va (n + 1) vc)).put oF.dst u).eval oS).run P (putB w T cs tm) = .ok .skip (putB w T (cs.set j (.slice va (n + 1) vc)) tm))
    (hrest : ∀ ua un uc b v' X d, (more W X d).ownsRow W.heap.size e 1 v' (n + 1) (xs ++ [.slice ua un uc]) → (more W X d).heap[T]? = some (.cells ⟨cs.set j v'⟩ tm (0, 0)) → K (more W X d) → R (.slice ua un uc) (more W X d) → Q .normal (((((a.put oA.dst (.slice ua un uc)).put oB.dst (.slice (some ⟨b, 0, none⟩) 1 1)).put oP.dst v').put oF.dst u).put oS.dst undef) (more W X d)) :
    tailW P ops (app6Cl K R T tm cs j W e v n xs) Q fin6 iS [iA, iB, iP, iF, iS] (0, undef, 0, undef) a := by
  refine tailW_step hiA hAw fun w hw => ?_
  obtain ⟨⟨y, rfl⟩, hown, hT0, hka⟩ := hw
  refine (hA _ ⟨y, rfl⟩ hT0 hka).mono fun uu w1 ⟨hb1, hr1⟩ => ?_
  obtain ⟨ua, un, uc, rfl⟩ := hone uu w1 hr1
  obtain ⟨z1, rfl⟩ := ext_trans ⟨y, rfl⟩ hb1
  refine ⟨(1, .slice ua un uc, 0, undef), ⟨⟨z1, rfl⟩, own_kept hown hb1, heap_keep hT0 hb1, hK.below _ _ hka hb1, hr1⟩, (fun _ q => by simp [fin6] at q), ?_⟩
  clear hown hT0 hka hb1 hr1
  refine tailW_step hiB (hBw _ _ _) fun w hw => ?_
  obtain ⟨⟨y, rfl⟩, hown, hT0, hka, hru⟩ := hw
  have hba := Below.alloc (Below.refl (more W y.X y.d).heap.size (more W y.X y.d)) (Nat.le_refl _) (.cells ⟨[.slice ua un uc]⟩ e)
  refine gives_value (hB ua un uc _) ?_
  generalize hbb : (more W y.X y.d).heap.size = b at *
  refine ⟨(2, .slice ua un uc, b, undef), ⟨⟨⟨y.X.push (.cells ⟨[.slice ua un uc]⟩ e), y.d⟩, more_alloc _ _ _ _⟩, hown.alloc _, heap_keep hT0 (by rw [hbb]; exact hba), hK.below _ _ hka (by rw [hbb]; exact hba), (hR _).below _ _ hru (by rw [hbb]; exact hba), by rw [← hbb]; exact heap_alloc_new _ _⟩, (fun _ q => by simp [fin6] at q), ?_⟩
  clear hown hT0 hka hru hba
  refine tailW_step hiP (hPw _ _ _ _) fun w hw => ?_
  obtain ⟨⟨y', rfl⟩, hown', hT1, hka', hru', hh⟩ := hw
  obtain ⟨v', w2, hr, h2, h3, _, h4⟩ := run_append_own_at (P := P) (more W y'.X y'.d) W.heap.size t oP.type e i z 1 bytes ht hi hz hsize hby hzs (by decide) v n xs hown' ⟨b, 0, none⟩ 1 1 [.slice ua un uc] rfl
    (fun j u hu => by
      rw [show (⟨b, 0, none⟩ : Addr).add j = ⟨b, j, none⟩ by (simp [Addr.add]; try omega), cell_of_row _ _ j _ _ (0, 0) hh]
      simpa using hu) (fun u hu => by obtain rfl : u = .slice ua un uc := by simpa using hu
                                      rfl) h63 hbytes (by simp)
  have hr2 : (execOp ((a.put oA.dst (.slice ua un uc)).put oB.dst (.slice (some ⟨b, 0, none⟩) 1 1)).eval oP).run P (more W y'.X y'.d) = .ok (.value v') w2 := by
    unfold execOp
    simp only [ho, resolve, invoke, builtin, Sem.run_bind, Sem.run_pure, Result.andThen_ok, List.map_toArray, List.map_cons, List.map_nil, hs, hx, hr]
  have hT2 : w2.heap[T]? = some (.cells ⟨cs⟩ tm (0, 0)) := by
    rw [h3.block T (Array.getElem?_eq_some_iff.1 hT1).1 (fun q => hte (own_type hown' q.symm hT1))]
    exact hT1
  obtain ⟨Y, k, e2⟩ := Below.ext (Below.grown (show Below W.heap.size W (more W y'.X y'.d) from Below.more (Below.refl _ _) (Nat.le_refl _) _ _) h3 (by simp) (fun k hk => (hown'.lt k hk).1))
  refine gives_value hr2 ⟨(3, .slice ua un uc, b, v'), ⟨⟨⟨Y, k⟩, e2⟩, h2, hT2, hK.grown _ _ _ hka' (fun g c t hv hg => own_type hown' hv hg) (fun g hv => own_cells hown' hv) h3, (hR _).grown _ _ _ hru' (fun g c t hv hg => own_type hown' hv hg) (fun g hv => own_cells hown' hv) h3⟩, (fun _ q => by simp [fin6] at q), ?_⟩
  clear hr hr2 h2 h3 h4 hT2 e2 hown' hT1 hka' hru' hh
  refine tailW_step hiF (hFw _ _ _ _ _) fun w hw => gives_value (hF _ _ _ _ _ _) ⟨(3, .slice ua un uc, b, v'), hw, (fun _ q => by simp [fin6] at q), ?_⟩
  refine tailW_step hiS (hSw _ _ _ _ _) fun w hw => ?_
  obtain ⟨⟨y3, rfl⟩, hown3, hT3, hka3, hru3⟩ := hw
  have hlt := (Array.getElem?_eq_some_iff.1 hT3).1
  obtain ⟨va, vc, hvf⟩ := own_shape hown3
  subst hvf
  have h5 := hS ua un uc b va vc _ hlt
  rw [putB_self hT3] at h5
  have hch : Chg T (T + 1) (more W y3.X y3.d) (putB (more W y3.X y3.d) T (cs.set j (.slice va (n + 1) vc)) tm) := ⟨rfl, rfl, rfl, by simp [putB], fun k _ hk => heap_putB_other k (by omega)⟩
  have hbl : Below W.heap.size W (putB (more W y3.X y3.d) T (cs.set j (.slice va (n + 1) vc)) tm) := (show Below W.heap.size W (more W y3.X y3.d) from Below.more (Below.refl _ _) (Nat.le_refl _) _ _).trans (Below.putB hT)
  obtain ⟨Y4, k4, e4⟩ := Below.ext hbl
  have hown4 : (putB (more W y3.X y3.d) T (cs.set j (.slice va (n + 1) vc)) tm).ownsRow W.heap.size e 1 (.slice va (n + 1) vc) (n + 1) (xs ++ [.slice ua un uc]) := by
    refine ⟨hown3.1, hown3.2.imp id ?_⟩
    rintro ⟨g, cap, cur, hv, hb, hg, r⟩
    refine ⟨g, cap, cur, hv, hb, ?_, r⟩
    rw [heap_putB_other g (fun q => ?_)]
    · exact hg
    · subst q
      exact hte (own_type hown3 (by rw [hv]; rfl) hT3)
  refine gives_skip h5 ⟨(4, .slice ua un uc, b, .slice va (n + 1) vc), ⟨⟨⟨Y4, k4⟩, e4⟩, hown4, heap_putB hlt, hK.store _ _ hka3 ⟨_, hT3⟩ hch, (hR _).store _ _ hru3 ⟨_, hT3⟩ hch⟩, (fun _ _ => rfl), ?_⟩
  refine tailW_nil ?_
  rintro w5 ⟨⟨z5, rfl⟩, h6, h7, h8, h9⟩
  exact hrest _ _ _ _ _ _ _ h6 h7 h8 h9
theorem region_app6 {id : Nat} {W : World} {X0 : Array Obj} {d0 : Nat} {a : Act} {l : Array Oper} (hs : List (Nat × Bool)) (ts : List Nat) (last : Nat) (tm : TypeId) (cs : List Value) (j : Nat) (e : TypeId) (v : Value) (n : Nat) (xs : List Value) (hK : Carried K e tm T) (hR : ∀ u, Carried (R u) e tm T) (hm : P.follows .mixedOrders = true) (hB : stageW l hs ts last = true) (hown : (more W X0 d0).ownsRow W.heap.size e 1 v n xs) (hT : (more W X0 d0).heap[T]? = some (.cells ⟨cs⟩ tm (0, 0))) (hka : K (more W X0 d0))
    (h : headW P l (fun w => (∃ z : Tail, w = more W z.X z.d) ∧ w.heap[T]? = some (.cells ⟨cs⟩ tm (0, 0)) ∧ K w) (fun _ => True) (tailW P l (app6Cl K R T tm cs j W e v n xs) Q fin6 last ts (0, undef, 0, undef)) hs a) : (Code.region id l true).wp P Q a (more W X0 d0) :=
  region_stageW (S := Nat × Value × Nat × Value) (Cl := app6Cl K R T tm cs j W e v n xs) hs ts last fin6 (0, undef, 0, undef) rfl hm hB app6Cl_C (fun _ _ _ => trivial) (app6Cl_stays hK hR) ⟨⟨⟨X0, d0 + 1⟩, rfl⟩, hown, hT, hK.below _ _ hka (Below.drew (Below.refl _ _))⟩ h
end
end Go.Proofs.Ytpfmcobkfofbjaa
