/- A region that draws its order, appends to a row of one's own and stores the row's new header into a box of one's own. -/
import Derived.Test.YtpfmcobkfofbjaaStageF
import Derived.Test.YtpfmcobkfofbjaaApp3
namespace Go.Proofs.Ytpfmcobkfofbjaa
open Go Go.RowKit
/-- What is carried along: it bears new blocks, a change of a block whose elements are of type e, a store into block T of type tm. -/
structure Carried (K : World → Prop) (e tm : TypeId) (T : Nat) : Prop where
  below : ∀ w w', K w → Below w.heap.size w w' → K w'
  grown : ∀ w w' row, K w → (∀ g c t, row = some g → w.heap[g]? = some (.cells c t (0, 0)) → t = e) → (∀ g, row = some g → ∃ c t fz, w.heap[g]? = some (.cells c t fz)) → w.grownBy w' row → K w'
  store : ∀ w w', K w → (∃ c, w.heap[T]? = some (.cells c tm (0, 0))) → Chg T (T + 1) w w' → K w'
section
variable {P : Program} {ops : Array Oper} {C : World → Prop} {Q : Exit → Act → World → Prop}
/-- The stages: nothing laid; the element's cells in block b; appended; stored. -/
def app4Cl (K : World → Prop) (T : Nat) (tm : TypeId) (cs : List Value) (j : Nat) (W : World) (e : TypeId) (size : Nat) (v : Value) (n m : Nat) (xs news : List Value) : Nat × Nat × Value → World → Prop
  | (0, _, _), w => (∃ z : Tail, w = more W z.X z.d) ∧ w.ownsRow W.heap.size e size v n xs ∧ w.heap[T]? = some (.cells ⟨cs⟩ tm (0, 0)) ∧ K w
  | (1, b, _), w => (∃ z : Tail, w = more W z.X z.d) ∧ w.ownsRow W.heap.size e size v n xs ∧ w.heap[T]? = some (.cells ⟨cs⟩ tm (0, 0)) ∧ K w ∧ w.heap[b]? = some (.cells ⟨news⟩ e (0, 0))
  | (2, _, v'), w => (∃ z : Tail, w = more W z.X z.d) ∧ w.ownsRow W.heap.size e size v' (n + m) (xs ++ news) ∧ w.heap[T]? = some (.cells ⟨cs⟩ tm (0, 0)) ∧ K w
  | (_ + 3, _, v'), w => (∃ z : Tail, w = more W z.X z.d) ∧ w.ownsRow W.heap.size e size v' (n + m) (xs ++ news) ∧ w.heap[T]? = some (.cells ⟨cs.set j v'⟩ tm (0, 0)) ∧ K w
variable {K : World → Prop} {T j : Nat} {tm : TypeId} {cs : List Value}
theorem app4Cl_ext {W : World} {e : TypeId} {size n m : Nat} {v : Value} {xs news : List Value} : ∀ s w, app4Cl K T tm cs j W e size v n m xs news s w → ∃ z : Tail, w = more W z.X z.d
  | (0, _, _), _, h => h.1
  | (1, _, _), _, h => h.1
  | (2, _, _), _, h => h.1
  | (_ + 3, _, _), _, h => h.1
/-- Behind the store nothing is left to run. -/
def fin4 (s : Nat × Nat × Value) : Bool := decide (3 ≤ s.1)
theorem app4Cl_C {W : World} {e : TypeId} {size n m : Nat} {v : Value} {xs news : List Value} : ∀ s w, fin4 s = false → app4Cl K T tm cs j W e size v n m xs news s w → (∃ z : Tail, w = more W z.X z.d) ∧ w.heap[T]? = some (.cells ⟨cs⟩ tm (0, 0))
  | (0, _, _), _, _, h => ⟨h.1, h.2.2.1⟩
  | (1, _, _), _, _, h => ⟨h.1, h.2.2.1⟩
  | (2, _, _), _, _, h => ⟨h.1, h.2.2.1⟩
  | (_ + 3, _, _), _, hf, _ => by simp [fin4] at hf
theorem heap_keep {w w' : World} {b : Nat} {o : Obj} (h : w.heap[b]? = some o) (hb : Below w.heap.size w w') : w'.heap[b]? = some o := by
  rw [hb.block b (Array.getElem?_eq_some_iff.1 h).1]; exact h
theorem app4Cl_stays {W : World} {e : TypeId} {size n m : Nat} {v : Value} {xs news : List Value} (hK : Carried K e tm T) : ∀ s w w', app4Cl K T tm cs j W e size v n m xs news s w → Below w.heap.size w w' → app4Cl K T tm cs j W e size v n m xs news s w'
  | (0, _, _), _, _, h, hb => ⟨ext_trans h.1 hb, own_kept h.2.1 hb, heap_keep h.2.2.1 hb, hK.below _ _ h.2.2.2 hb⟩
  | (1, _, _), _, _, h, hb => ⟨ext_trans h.1 hb, own_kept h.2.1 hb, heap_keep h.2.2.1 hb, hK.below _ _ h.2.2.2.1 hb, heap_keep h.2.2.2.2 hb⟩
  | (2, _, _), _, _, h, hb => ⟨ext_trans h.1 hb, own_kept h.2.1 hb, heap_keep h.2.2.1 hb, hK.below _ _ h.2.2.2 hb⟩
  | (_ + 3, _, _), _, _, h, hb => ⟨ext_trans h.1 hb, own_kept h.2.1 hb, heap_keep h.2.2.1 hb, hK.below _ _ h.2.2.2 hb⟩
theorem own_cells {w : World} {base : Nat} {e : TypeId} {s : Nat} {v : Value} {n : Nat} {xs : List Value} (h : w.ownsRow base e s v n xs) {g : Nat} (hv : v.ownBlock = some g) : ∃ c t fz, w.heap[g]? = some (.cells c t fz) := by
  rcases h.2 with ⟨rfl, _⟩ | ⟨g', cap, cur, rfl, _, hc, _⟩
  · cases hv
  · simp only [Value.ownBlock, Option.some.injEq] at hv
    subst hv
    exact ⟨_, _, _, hc⟩
theorem own_type {w : World} {base : Nat} {e : TypeId} {s : Nat} {v : Value} {n : Nat} {xs : List Value} (h : w.ownsRow base e s v n xs) {g : Nat} {c : Array Value} {t : TypeId} (hv : v.ownBlock = some g) (hg : w.heap[g]? = some (.cells c t (0, 0))) : t = e := by
  rcases h.2 with ⟨rfl, _⟩ | ⟨g', cap, cur, rfl, _, hc, _⟩
  · cases hv
  · simp only [Value.ownBlock, Option.some.injEq] at hv
    subst hv
    rw [hc] at hg
    simp only [Option.some.injEq, Obj.cells.injEq] at hg
    exact hg.2.1.symm
theorem own_shape {w : World} {base : Nat} {e : TypeId} {s : Nat} {v : Value} {n : Nat} {xs : List Value} (h : w.ownsRow base e s v n xs) : ∃ a cap, v = .slice a n cap := by
  rcases h.2 with ⟨rfl, h0⟩ | ⟨g, cap, cur, rfl, _⟩
  · exact ⟨none, 0, by rw [h0]⟩
  · exact ⟨_, _, rfl⟩
theorem tail_app4 {W : World} {e t : TypeId} {size bytes n m : Nat} {i : TypeInfo} {z v : Value} {xs news : List Value} {oB oP oF oS : Oper} {iB iP iF iS : Nat} {a : Act} {u : Value} (hK : Carried K e tm T) (hT : W.heap.size ≤ T) (hte : tm ≠ e)
    (hiB : ops[iB]? = some oB) (hiP : ops[iP]? = some oP) (hiF : ops[iF]? = some oF) (hiS : ops[iS]? = some oS) (s x : Operand)
    (hBw : Region.wanted oB (yielded ops a.tmps) = true)
    (hB : ∀ w, (execOp a.eval oB).run P w = .ok (.value (.slice (some ⟨w.heap.size, 0, none⟩) m m)) (w.alloc (.cells ⟨news⟩ e)))
    (hPw : ∀ b, Region.wanted oP (yielded ops (a.put oB.dst (.slice (some ⟨b, 0, none⟩) m m)).tmps) = true)
    (ho : oP.op = .call { callee := .builtin .append, args := #[s, x], argTypes := #[t, t] })
    (ht : P.underlying t = some (.slice e)) (hi : P.info? e = some i) (hz : i.zero = some z) (hsize : i.size = size) (hby : i.bytes = bytes) (hzs : z.cells.size = size) (hsz : 0 < size)
    (hs : ∀ b, (a.put oB.dst (.slice (some ⟨b, 0, none⟩) m m)).eval s = v) (hx : ∀ b, (a.put oB.dst (.slice (some ⟨b, 0, none⟩) m m)).eval x = .slice (some ⟨b, 0, none⟩) m m)
    (hl : news.length = m * size) (h1 : ∀ u ∈ news, u.oneCell' = true) (h63 : n + m ≤ maxLen) (hbytes : (n + m) * bytes ≤ 140737488355328)
    (hFw : ∀ b v', Region.wanted oF (yielded ops ((a.put oB.dst (.slice (some ⟨b, 0, none⟩) m m)).put oP.dst v').tmps) = true)
    (hF : ∀ b v' w, (execOp ((a.put oB.dst (.slice (some ⟨b, 0, none⟩) m m)).put oP.dst v').eval oF).run P w = .ok (.value u) w)
    (hSw : ∀ b v', Region.wanted oS (yielded ops (((a.put oB.dst (.slice (some ⟨b, 0, none⟩) m m)).put oP.dst v').put oF.dst u).tmps) = true)
    (hS : ∀ b va vc w, T < w.heap.size → (execOp (((a.put oB.dst (.slice (some ⟨b, 0, none⟩) m m)).put oP.dst (.slice va (n + m) vc)).put oF.dst u).eval oS).run P (putB w T cs tm) = .ok .skip (putB w T (cs.set j (.slice va (n + m) vc)) tm))
    (hrest : ∀ b v' X d, (more W X d).ownsRow W.heap.size e size v' (n + m) (xs ++ news) → (more W X d).heap[T]? = some (.cells ⟨cs.set j v'⟩ tm (0, 0)) → K (more W X d) → Q .normal ((((a.put oB.dst (.slice (some ⟨b, 0, none⟩) m m)).put oP.dst v').put oF.dst u).put oS.dst undef) (more W X d)) :
    tailF P ops (app4Cl K T tm cs j W e size v n m xs news) Q fin4 iS [iB, iP, iF, iS] (0, 0, undef) a := by
  refine ⟨oB, hiB, hBw, fun w hw => ?_⟩
  obtain ⟨⟨y, rfl⟩, hown, hT0, hka⟩ := hw
  have hba := Below.alloc (Below.refl (more W y.X y.d).heap.size (more W y.X y.d)) (Nat.le_refl _) (.cells ⟨news⟩ e)
  refine ⟨_, _, (1, (more W y.X y.d).heap.size, undef), .inl (hB _), ⟨⟨⟨y.X.push (.cells ⟨news⟩ e), y.d⟩, more_alloc _ _ _ _⟩, hown.alloc _, heap_keep hT0 hba, hK.below _ _ hka hba, heap_alloc_new _ _⟩, (fun q => by simp [fin4] at q), oP, hiP, hPw _, fun w' hw' => ?_⟩
  obtain ⟨⟨y', rfl⟩, hown', hT1, hka', hh⟩ := hw'
  obtain ⟨v', w2, hr, h2, h3, _, h4⟩ := run_append_own_at (P := P) (more W y'.X y'.d) W.heap.size t oP.type e i z size bytes ht hi hz hsize hby hzs hsz v n xs hown' ⟨(more W y.X y.d).heap.size, 0, none⟩ m m news hl
    (fun j u hu => by
      rw [show (⟨(more W y.X y.d).heap.size, 0, none⟩ : Addr).add j = ⟨(more W y.X y.d).heap.size, j, none⟩ by (simp [Addr.add]; try omega), cell_of_row _ _ j _ _ (0, 0) hh]
      simpa using hu) h1 h63 hbytes (by simp)
  have hr2 : (execOp (a.put oB.dst (.slice (some ⟨(more W y.X y.d).heap.size, 0, none⟩) m m)).eval oP).run P (more W y'.X y'.d) = .ok (.value v') w2 := by
    unfold execOp
    simp only [ho, resolve, invoke, builtin, Sem.run_bind, Sem.run_pure, Result.andThen_ok, List.map_toArray, List.map_cons, List.map_nil, hs, hx, hr]
  have hT2 : w2.heap[T]? = some (.cells ⟨cs⟩ tm (0, 0)) := by
    rw [h3.block T (Array.getElem?_eq_some_iff.1 hT1).1 (fun q => hte (own_type hown' q.symm hT1))]
    exact hT1
  obtain ⟨Y, k, e2⟩ := Below.ext (Below.grown (show Below W.heap.size W (more W y'.X y'.d) from Below.more (Below.refl _ _) (Nat.le_refl _) _ _) h3 (by simp) (fun k hk => (hown'.lt k hk).1))
  refine ⟨_, _, (2, (more W y.X y.d).heap.size, v'), .inl hr2, ⟨⟨⟨Y, k⟩, e2⟩, h2, hT2, hK.grown _ _ _ hka' (fun g c t hv hg => own_type hown' hv hg) (fun g hv => own_cells hown' hv) h3⟩, (fun q => by simp [fin4] at q), oF, hiF, hFw _ _, fun w4 hw4 => ⟨_, _, (2, (more W y.X y.d).heap.size, v'), .inl (hF _ _ _), hw4, (fun q => by simp [fin4] at q), oS, hiS, hSw _ _, fun w3 hw3 => ?_⟩⟩
  obtain ⟨⟨y3, rfl⟩, hown3, hT3, hka3⟩ := hw3
  have hlt := (Array.getElem?_eq_some_iff.1 hT3).1
  obtain ⟨va, vc, hvf⟩ := own_shape hown3
  subst hvf
  have h5 := hS (more W y.X y.d).heap.size va vc _ hlt
  rw [putB_self hT3] at h5
  have hch : Chg T (T + 1) (more W y3.X y3.d) (putB (more W y3.X y3.d) T (cs.set j (.slice va (n + m) vc)) tm) := ⟨rfl, rfl, rfl, by simp [putB], fun k _ hk => heap_putB_other k (by omega)⟩
  have hbl : Below W.heap.size W (putB (more W y3.X y3.d) T (cs.set j (.slice va (n + m) vc)) tm) := (show Below W.heap.size W (more W y3.X y3.d) from Below.more (Below.refl _ _) (Nat.le_refl _) _ _).trans (Below.putB hT)
  obtain ⟨Y4, k4, e4⟩ := Below.ext hbl
  have hown4 : (putB (more W y3.X y3.d) T (cs.set j (.slice va (n + m) vc)) tm).ownsRow W.heap.size e size (.slice va (n + m) vc) (n + m) (xs ++ news) := by
    refine ⟨hown3.1, hown3.2.imp id ?_⟩
    rintro ⟨g, cap, cur, hv, hb, hg, r⟩
    refine ⟨g, cap, cur, hv, hb, ?_, r⟩
    rw [heap_putB_other g (fun q => ?_)]
    · exact hg
    · subst q
      exact hte (own_type hown3 (by rw [hv]; rfl) hT3)
  refine ⟨_, _, (3, (more W y.X y.d).heap.size, .slice va (n + m) vc), .inr ⟨h5, rfl⟩, ⟨⟨⟨Y4, k4⟩, e4⟩, hown4, heap_putB hlt, hK.store _ _ hka3 ⟨_, hT3⟩ hch⟩, (fun _ => rfl), ?_⟩
  rintro w5 ⟨⟨z5, rfl⟩, h6, h7, h8⟩
  exact hrest _ _ _ _ h6 h7 h8
theorem region_app4 {id : Nat} {W : World} {X0 : Array Obj} {d0 : Nat} {a : Act} {l : Array Oper} (hs ts : List Nat) (last : Nat) (tm : TypeId) (cs : List Value) (j : Nat) (e : TypeId) (size : Nat) (v : Value) (n m : Nat) (xs news : List Value) (hK : Carried K e tm T) (hm : P.follows .mixedOrders = true) (hB : stageF l hs ts last = true) (hown : (more W X0 d0).ownsRow W.heap.size e size v n xs) (hT : (more W X0 d0).heap[T]? = some (.cells ⟨cs⟩ tm (0, 0))) (hka : K (more W X0 d0))
    (h : headP P l (fun w => (∃ z : Tail, w = more W z.X z.d) ∧ w.heap[T]? = some (.cells ⟨cs⟩ tm (0, 0))) (tailF P l (app4Cl K T tm cs j W e size v n m xs news) Q fin4 last ts (0, 0, undef)) hs a) : (Code.region id l true).wp P Q a (more W X0 d0) :=
  region_stageF (S := Nat × Nat × Value) (Cl := app4Cl K T tm cs j W e size v n m xs news) hs ts last fin4 (0, 0, undef) rfl hm hB app4Cl_C (app4Cl_stays hK) ⟨⟨⟨X0, d0 + 1⟩, rfl⟩, hown, hT, hK.below _ _ hka (Below.drew (Below.refl _ _))⟩ h
end
end Go.Proofs.Ytpfmcobkfofbjaa
