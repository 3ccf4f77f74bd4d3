/- App2, with App ahead of it. -/
import Derived.Test.YtpfmcobkfofbjaaBox
import Derived.Test.YtpfmcobkfofbjaaAppInt
namespace Go.Proofs.Ytpfmcobkfofbjaa
open Go Go.RowKit
section
variable {P : Program} {ops : Array Oper} {C : World → Prop} {Q : Exit → Act → World → Prop}
/-- The stages: nothing laid; the element's cells in block b; appended. -/
def appCl (W : World) (e : TypeId) (size : Nat) (v : Value) (n : Nat) (xs news : List Value) : Nat × Nat × Value → World → Prop
  | (0, _, _), w => (∃ z : Tail, w = more W z.X z.d) ∧ w.ownsRow W.heap.size e size v n xs
  | (1, b, _), w => (∃ z : Tail, w = more W z.X z.d) ∧ w.ownsRow W.heap.size e size v n xs ∧ w.heap[b]? = some (.cells ⟨news⟩ e (0, 0))
  | (_ + 2, _, v'), w => (∃ z : Tail, w = more W z.X z.d) ∧ w.ownsRow W.heap.size e size v' (n + 1) (xs ++ news)
theorem appCl_ext {W : World} {e : TypeId} {size n : Nat} {v : Value} {xs news : List Value} : ∀ s w, appCl W e size v n xs news s w → ∃ z : Tail, w = more W z.X z.d
  | (0, _, _), _, h => h.1
  | (1, _, _), _, h => h.1
  | (_ + 2, _, _), _, h => h.1
theorem appCl_stays {W : World} {e : TypeId} {size n : Nat} {v : Value} {xs news : List Value} : ∀ s w w', appCl W e size v n xs news s w → Below w.heap.size w w' → appCl W e size v n xs news s w'
  | (0, _, _), _, _, h, hb => ⟨ext_trans h.1 hb, own_kept h.2 hb⟩
  | (1, b, _), w, _, h, hb => ⟨ext_trans h.1 hb, own_kept h.2.1 hb, by rw [hb.block b (Array.getElem?_eq_some_iff.1 h.2.2).1]; exact h.2.2⟩
  | (_ + 2, _, _), _, _, h, hb => ⟨ext_trans h.1 hb, own_kept h.2 hb⟩
theorem tail_app {W : World} {e t : TypeId} {size bytes n : Nat} {i : TypeInfo} {z v : Value} {xs news : List Value} {oB oP : Oper} {rest : List Oper} {a : Act} (s x : Operand)
    (hBw : Region.wanted oB (yielded ops a.tmps) = true)
    (hB : ∀ w, (execOp a.eval oB).run P w = .ok (.value (.slice (some ⟨w.heap.size, 0, none⟩) 1 1)) (w.alloc (.cells ⟨news⟩ e)))
    (hPw : ∀ b, Region.wanted oP (yielded ops (a.put oB.dst (.slice (some ⟨b, 0, none⟩) 1 1)).tmps) = true)
    (ho : oP.op = .call { callee := .builtin .append, args := #[s, x], argTypes := #[t, t] })
    (ht : P.underlying t = some (.slice e)) (hi : P.info? e = some i) (hz : i.zero = some z) (hsize : i.size = size) (hby : i.bytes = bytes) (hzs : z.cells.size = size) (hsz : 0 < size)
    (hs : ∀ b, (a.put oB.dst (.slice (some ⟨b, 0, none⟩) 1 1)).eval s = v) (hx : ∀ b, (a.put oB.dst (.slice (some ⟨b, 0, none⟩) 1 1)).eval x = .slice (some ⟨b, 0, none⟩) 1 1)
    (hl : news.length = 1 * size) (h1 : ∀ u ∈ news, u.oneCell' = true) (h63 : n + 1 ≤ maxLen) (hbytes : (n + 1) * bytes ≤ 140737488355328)
    (hrest : ∀ b v', tailS P ops (appCl W e size v n xs news) Q rest (2, b, v') ((a.put oB.dst (.slice (some ⟨b, 0, none⟩) 1 1)).put oP.dst v')) :
    tailS P ops (appCl W e size v n xs news) Q (oB :: oP :: rest) (0, 0, undef) a := by
  refine ⟨hBw, fun w hw => ?_⟩
  obtain ⟨⟨y, rfl⟩, hown⟩ := hw
  refine ⟨_, _, (1, (more W y.X y.d).heap.size, undef), .inl (hB _), ⟨⟨⟨y.X.push (.cells ⟨news⟩ e), y.d⟩, more_alloc _ _ _ _⟩, hown.alloc _, heap_alloc_new _ _⟩, hPw _, fun w' hw' => ?_⟩
  obtain ⟨⟨y', rfl⟩, hown', hh⟩ := hw'
  obtain ⟨v', w2, hr, h2, h3, _⟩ := run_append_own (P := P) (more W y'.X y'.d) W.heap.size t oP.type e i z size bytes ht hi hz hsize hby hzs hsz v n xs hown' ⟨(more W y.X y.d).heap.size, 0, none⟩ 1 1 news hl
    (fun j u hu => by
      rw [show (⟨(more W y.X y.d).heap.size, 0, none⟩ : Addr).add j = ⟨(more W y.X y.d).heap.size, j, none⟩ by (simp [Addr.add]; try omega), cell_of_row _ _ j _ _ (0, 0) hh]
      simpa using hu) h1 h63 hbytes (by simp)
  have hr2 : (execOp (a.put oB.dst (.slice (some ⟨(more W y.X y.d).heap.size, 0, none⟩) 1 1)).eval oP).run P (more W y'.X y'.d) = .ok (.value v') w2 := by
    unfold execOp
    simp only [ho, resolve, invoke, builtin, Sem.run_bind, Sem.run_pure, Result.andThen_ok, List.map_toArray, List.map_cons, List.map_nil, hs, hx, hr]
  obtain ⟨Y, m, e2⟩ := Below.ext (Below.grown (show Below W.heap.size W (more W y'.X y'.d) from Below.more (Below.refl _ _) (Nat.le_refl _) _ _) h3 (by simp) (fun k hk => (hown'.lt k hk).1))
  exact ⟨_, _, (2, (more W y.X y.d).heap.size, v'), .inl hr2, ⟨⟨⟨Y, m⟩, e2⟩, h2⟩, hrest _ _⟩
theorem app_quiet {W : World} {e : TypeId} {size n b : Nat} {v v' u : Value} {xs news : List Value} {a : Act} {o : Oper} {rest : List Oper} (hw : Region.wanted o (yielded ops a.tmps) = true) (ho : ∀ w, (execOp a.eval o).run P w = .ok (.value u) w)
    (h : tailS P ops (appCl W e size v n xs news) Q rest (2, b, v') (a.put o.dst u)) : tailS P ops (appCl W e size v n xs news) Q (o :: rest) (2, b, v') a :=
  ⟨hw, fun w hw' => ⟨u, w, (2, b, v'), .inl (ho w), hw', h⟩⟩
theorem app_done {W : World} {e : TypeId} {size n b : Nat} {v v' : Value} {xs news : List Value} {a : Act} (h : ∀ X d, (more W X d).ownsRow W.heap.size e size v' (n + 1) (xs ++ news) → Q .normal a (more W X d)) :
    tailS P ops (appCl W e size v n xs news) Q [] (2, b, v') a := by
  rintro w ⟨⟨z, rfl⟩, hh⟩
  exact h z.X z.d hh
theorem region_app {id : Nat} {W : World} {X0 : Array Obj} {d0 : Nat} {a : Act} {l : List Oper} (k : Nat) (e : TypeId) (size : Nat) (v : Value) (n : Nat) (xs news : List Value) (hm : P.follows .mixedOrders = true) (hB : stageB l.toArray k = true) (hown : (more W X0 d0).ownsRow W.heap.size e size v n xs)
    (h : headS P l.toArray (fun w => ∃ z : Tail, w = more W z.X z.d) (tailS P l.toArray (appCl W e size v n xs news) Q (l.drop k) (0, 0, undef)) (l.take k) a) : (Code.region id l.toArray true).wp P Q a (more W X0 d0) :=
  region_stage (S := Nat × Nat × Value) (Cl := appCl W e size v n xs news) k (0, 0, undef) hm hB appCl_ext appCl_stays ⟨⟨⟨X0, d0 + 1⟩, rfl⟩, hown⟩ h
end
end Go.Proofs.Ytpfmcobkfofbjaa
namespace Go.Proofs.Ytpfmcobkfofbjaa
open Go Go.RowKit
section
variable {P : Program} {ops : Array Oper} {C : World → Prop} {Q : Exit → Act → World → Prop}
/-- The stages: nothing laid; the element's cells in block b; appended. -/
def app2Cl (W : World) (e : TypeId) (size : Nat) (v : Value) (n m : Nat) (xs news : List Value) : Nat × Nat × Value → World → Prop
  | (0, _, _), w => (∃ z : Tail, w = more W z.X z.d) ∧ w.ownsRow W.heap.size e size v n xs
  | (1, b, _), w => (∃ z : Tail, w = more W z.X z.d) ∧ w.ownsRow W.heap.size e size v n xs ∧ w.heap[b]? = some (.cells ⟨news⟩ e (0, 0))
  | (_ + 2, _, v'), w => (∃ z : Tail, w = more W z.X z.d) ∧ w.ownsRow W.heap.size e size v' (n + m) (xs ++ news)
theorem app2Cl_ext {W : World} {e : TypeId} {size n m : Nat} {v : Value} {xs news : List Value} : ∀ s w, app2Cl W e size v n m xs news s w → ∃ z : Tail, w = more W z.X z.d
  | (0, _, _), _, h => h.1
  | (1, _, _), _, h => h.1
  | (_ + 2, _, _), _, h => h.1
theorem app2Cl_stays {W : World} {e : TypeId} {size n m : Nat} {v : Value} {xs news : List Value} : ∀ s w w', app2Cl W e size v n m xs news s w → Below w.heap.size w w' → app2Cl W e size v n m xs news s w'
  | (0, _, _), _, _, h, hb => ⟨ext_trans h.1 hb, own_kept h.2 hb⟩
  | (1, b, _), w, _, h, hb => ⟨ext_trans h.1 hb, own_kept h.2.1 hb, by rw [hb.block b (Array.getElem?_eq_some_iff.1 h.2.2).1]; exact h.2.2⟩
  | (_ + 2, _, _), _, _, h, hb => ⟨ext_trans h.1 hb, own_kept h.2 hb⟩
theorem tail_app2 {W : World} {e t : TypeId} {size bytes n m : Nat} {i : TypeInfo} {z v : Value} {xs news : List Value} {oB oP : Oper} {rest : List Oper} {a : Act} (s x : Operand)
    (hBw : Region.wanted oB (yielded ops a.tmps) = true)
    (hB : ∀ w, (execOp a.eval oB).run P w = .ok (.value (.slice (some ⟨w.heap.size, 0, none⟩) m m)) (w.alloc (.cells ⟨news⟩ e)))
    (hPw : ∀ b, Region.wanted oP (yielded ops (a.put oB.dst (.slice (some ⟨b, 0, none⟩) m m)).tmps) = true)
    (ho : oP.op = .call { callee := .builtin .append, args := #[s, x], argTypes := #[t, t] })
    (ht : P.underlying t = some (.slice e)) (hi : P.info? e = some i) (hz : i.zero = some z) (hsize : i.size = size) (hby : i.bytes = bytes) (hzs : z.cells.size = size) (hsz : 0 < size)
    (hs : ∀ b, (a.put oB.dst (.slice (some ⟨b, 0, none⟩) m m)).eval s = v) (hx : ∀ b, (a.put oB.dst (.slice (some ⟨b, 0, none⟩) m m)).eval x = .slice (some ⟨b, 0, none⟩) m m)
    (hl : news.length = m * size) (h1 : ∀ u ∈ news, u.oneCell' = true) (h63 : n + m ≤ maxLen) (hbytes : (n + m) * bytes ≤ 140737488355328)
    (hrest : ∀ b v', tailS P ops (app2Cl W e size v n m xs news) Q rest (2, b, v') ((a.put oB.dst (.slice (some ⟨b, 0, none⟩) m m)).put oP.dst v')) :
    tailS P ops (app2Cl W e size v n m xs news) Q (oB :: oP :: rest) (0, 0, undef) a := by
  refine ⟨hBw, fun w hw => ?_⟩
  obtain ⟨⟨y, rfl⟩, hown⟩ := hw
  refine ⟨_, _, (1, (more W y.X y.d).heap.size, undef), .inl (hB _), ⟨⟨⟨y.X.push (.cells ⟨news⟩ e), y.d⟩, more_alloc _ _ _ _⟩, hown.alloc _, heap_alloc_new _ _⟩, hPw _, fun w' hw' => ?_⟩
  obtain ⟨⟨y', rfl⟩, hown', hh⟩ := hw'
  obtain ⟨v', w2, hr, h2, h3, _⟩ := run_append_own (P := P) (more W y'.X y'.d) W.heap.size t oP.type e i z size bytes ht hi hz hsize hby hzs hsz v n xs hown' ⟨(more W y.X y.d).heap.size, 0, none⟩ m m news hl
    (fun j u hu => by
      rw [show (⟨(more W y.X y.d).heap.size, 0, none⟩ : Addr).add j = ⟨(more W y.X y.d).heap.size, j, none⟩ by (simp [Addr.add]; try omega), cell_of_row _ _ j _ _ (0, 0) hh]
      simpa using hu) h1 h63 hbytes (by simp)
  have hr2 : (execOp (a.put oB.dst (.slice (some ⟨(more W y.X y.d).heap.size, 0, none⟩) m m)).eval oP).run P (more W y'.X y'.d) = .ok (.value v') w2 := by
    unfold execOp
    simp only [ho, resolve, invoke, builtin, Sem.run_bind, Sem.run_pure, Result.andThen_ok, List.map_toArray, List.map_cons, List.map_nil, hs, hx, hr]
  obtain ⟨Y, m, e2⟩ := Below.ext (Below.grown (show Below W.heap.size W (more W y'.X y'.d) from Below.more (Below.refl _ _) (Nat.le_refl _) _ _) h3 (by simp) (fun k hk => (hown'.lt k hk).1))
  exact ⟨_, _, (2, (more W y.X y.d).heap.size, v'), .inl hr2, ⟨⟨⟨Y, m⟩, e2⟩, h2⟩, hrest _ _⟩
theorem app2_quiet {W : World} {e : TypeId} {size n m b : Nat} {v v' u : Value} {xs news : List Value} {a : Act} {o : Oper} {rest : List Oper} (hw : Region.wanted o (yielded ops a.tmps) = true) (ho : ∀ w, (execOp a.eval o).run P w = .ok (.value u) w)
    (h : tailS P ops (app2Cl W e size v n m xs news) Q rest (2, b, v') (a.put o.dst u)) : tailS P ops (app2Cl W e size v n m xs news) Q (o :: rest) (2, b, v') a :=
  ⟨hw, fun w hw' => ⟨u, w, (2, b, v'), .inl (ho w), hw', h⟩⟩
theorem app2_done {W : World} {e : TypeId} {size n m b : Nat} {v v' : Value} {xs news : List Value} {a : Act} (h : ∀ X d, (more W X d).ownsRow W.heap.size e size v' (n + m) (xs ++ news) → Q .normal a (more W X d)) :
    tailS P ops (app2Cl W e size v n m xs news) Q [] (2, b, v') a := by
  rintro w ⟨⟨z, rfl⟩, hh⟩
  exact h z.X z.d hh
theorem region_app2 {id : Nat} {W : World} {X0 : Array Obj} {d0 : Nat} {a : Act} {l : List Oper} (k : Nat) (e : TypeId) (size : Nat) (v : Value) (n m : Nat) (xs news : List Value) (hm : P.follows .mixedOrders = true) (hB : stageB l.toArray k = true) (hown : (more W X0 d0).ownsRow W.heap.size e size v n xs)
    (h : headS P l.toArray (fun w => ∃ z : Tail, w = more W z.X z.d) (tailS P l.toArray (app2Cl W e size v n m xs news) Q (l.drop k) (0, 0, undef)) (l.take k) a) : (Code.region id l.toArray true).wp P Q a (more W X0 d0) :=
  region_stage (S := Nat × Nat × Value) (Cl := app2Cl W e size v n m xs news) k (0, 0, undef) hm hB app2Cl_ext app2Cl_stays ⟨⟨⟨X0, d0 + 1⟩, rfl⟩, hown⟩ h
end
end Go.Proofs.Ytpfmcobkfofbjaa
