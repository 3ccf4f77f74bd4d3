/- SubK, with Places ahead of it. -/
import Derived.Test.YtpfmcobkfofbjaaGroups
import Derived.Test.YtpfmcobkfofbjaaSubG
import Derived.Test.YtpfmcobkfofbjaaSubMath
import Derived.Test.YtpfmcobkfofbjaaApp6
import Derived.Test.YtpfmcobkfofbjaaEdgePointI
namespace Go.Proofs.Ytpfmcobkfofbjaa
open Go Go.RowKit Go.Maps
theorem zero_place (w : World) : (zeroValue 3).run Try.prog w = .ok (.int .i64 0) w := by kernel_rfl
/-- Block b is a map of at most n edges, whose keys are ks: F says what lies at each. -/
def MapP (w : World) (b n : Nat) (ks : List (Int × Int)) (F : Int × Int → Value) : Prop :=
  ∃ D : DataW Value, w.ownsMap Try.prog 55 rawElem b n D ∧ (∀ p kl, keyOf Try.prog 55 (edgeV p) = some kl → D.atKey kl (.held (.int .i64 0)) = .held (F p)) ∧
    Tidy D ∧ (∀ p kl, keyOf Try.prog 55 (edgeV p) = some kl → has D kl = decide (p ∈ ks)) ∧ Maps.size D = ks.length ∧ ks.Nodup ∧ ∀ p ∈ ks, wfE p
theorem MapP.made (w : World) : MapP (w.alloc (.map #[] 0)) w.heap.size 0 [] (fun _ => .int .i64 0) :=
  ⟨.map [], World.ownsMap_made w _ _ _, fun _ _ _ => rfl, tidy_empty, fun _ _ _ => by simp [has_eq], rfl, List.nodup_nil, by simp⟩
theorem MapP.grown {w w' : World} {b n : Nat} {ks : List (Int × Int)} {F : Int × Int → Value} {row : Option Nat} (h : MapP w b n ks F) (hg : w.grownBy w' row) (hne : some b ≠ row) : MapP w' b n ks F := by
  obtain ⟨D, h1, h2⟩ := h
  exact ⟨D, h1.kept hg hne, h2⟩
theorem MapP.kept {w w' : World} {b n : Nat} {ks : List (Int × Int)} {F : Int × Int → Value} (h : MapP w b n ks F) (hb : Below w.heap.size w w') : MapP w' b n ks F := h.grown (grownBy_of_below hb) (by simp)
theorem MapP.lt {w : World} {b n : Nat} {ks : List (Int × Int)} {F : Int × Int → Value} (h : MapP w b n ks F) : b < w.heap.size := by
  obtain ⟨D, h1, _⟩ := h
  exact h1.lt
theorem MapP.isMap {w : World} {b n : Nat} {ks : List (Int × Int)} {F : Int × Int → Value} (h : MapP w b n ks F) : ∃ es clock, w.heap[b]? = some (.map es clock) := by
  obtain ⟨D, ⟨es, clock, hb, _⟩, _⟩ := h
  exact ⟨es, clock, hb⟩
theorem MapP.look {w : World} {b n : Nat} {ks : List (Int × Int)} {F : Int × Int → Value} (h : MapP w b n ks F) {p : Int × Int} (hp : wfE p) :
    (Instr.lookup 52 (.map (some b)) (edgeV p) false).run Try.prog w = .ok (F p) w := by
  obtain ⟨D, h1, h2, _⟩ := h
  obtain ⟨kl, hk⟩ := edge_key hp
  obtain ⟨v, ps, hr, hv⟩ := h1.lookup edge_law Try.underlying52 (zero_place w) (zd := .held (.int .i64 0)) (zp := []) rfl hk
  simp only [rawElem, Option.some.injEq, Prod.mk.injEq] at hv
  rw [h2 p kl hk] at hv
  simp only [DataW.held.injEq] at hv
  rw [hr, hv.1]
theorem MapP.store {w : World} {b n : Nat} {ks : List (Int × Int)} {F : Int × Int → Value} (h : MapP w b n ks F) (hn : n < maxLen) {p : Int × Int} (hp : wfE p) (v : Value) :
    ∃ w', (Instr.mapUpdate 52 (.map (some b)) (edgeV p) v).run Try.prog w = .ok () w' ∧ MapP w' b (n + 1) (addK ks p) (putF F p v) ∧ w.grownBy w' (some b) := by
  obtain ⟨D, h1, h2, h3, h4, h5, h6, h7⟩ := h
  obtain ⟨kl, hk⟩ := edge_key hp
  obtain ⟨w', hr, ho, hg⟩ := h1.update edge_law Try.underlying52 hn hk (d := .held v) (ps := []) (val := v) rfl
  have hkk := edge_law.key hk
  have e4 := h4 p kl hk
  refine ⟨w', hr, ⟨_, ho, fun q kq hq => ?_, h3.put hkk _, fun q kq hq => ?_, ?_, ?_, ?_⟩, hg⟩
  · by_cases e : q = p
    · subst e
      have : kq = kl := by rw [hk] at hq; exact (Option.some.inj hq).symm
      subst this
      rw [Maps.atKey_put_same h3.isMap hkk, putF_self]
    · have hne : kq ≠ kl := fun e2 => e (edge_inj hq (e2 ▸ hk))
      rw [Maps.atKey_put_other hne, h2 q kq hq, putF_ne e]
  · by_cases e : q = p
    · subst e
      have : kq = kl := by rw [hk] at hq; exact (Option.some.inj hq).symm
      subst this
      rw [has_put_same h3.isMap hkk]
      unfold addK
      split <;> simp_all
    · have hne : kq ≠ kl := fun e2 => e (edge_inj hq (e2 ▸ hk))
      rw [has_put_other hne, h4 q kq hq]
      unfold addK
      split
      · rfl
      · simp [e]
  · rw [size_put h3, e4, h5]
    unfold addK
    by_cases e : p ∈ ks <;> simp [e]
  · unfold addK
    split
    · exact h6
    · rename_i e
      refine List.nodup_append.2 ⟨h6, by simp, ?_⟩
      intro x hx y hy e2
      simp only [List.mem_singleton] at hy
      subst hy; subst e2
      exact e hx
  · unfold addK
    split
    · exact h7
    · intro q hq
      rcases List.mem_append.1 hq with h8 | h8
      · exact h7 q h8
      · simp only [List.mem_singleton] at h8; subst h8; exact hp
end Go.Proofs.Ytpfmcobkfofbjaa
namespace Go.Proofs.Ytpfmcobkfofbjaa
open Go Go.RowKit
theorem onEdge_edge {p : MeshD} (hok : meshOkB p = true) {e : Int × Int} (h : e ∈ edgesL p.faces p.nF) : OnEdge p e.1 e.2 (hitsTo p.faces e p.nF) := by
  have h1 : efacesD p e.1 e.2 = hitsTo p.faces e p.nF := by rw [efacesD, if_pos hok, und_edge h]
  have h2 := onEdge_of (p := p) (a := e.1) (b := e.2) (by rw [h1]; exact hits_pos h)
  rw [h1] at h2; exact h2
theorem Groups.low {w : World} {base lo b n : Nat} {ks : List (Int × Int)} {F : Int × Int → Value} {G : Int × Int → List Int} (h : Groups w base b n ks F G) (hl : lo ≤ base) : Groups w lo b n ks F G :=
  ⟨h.m, fun p => own_base (h.own p) hl, h.apart⟩
/-- The boxes of the argument and of the result. -/
@[reducible] def MbS (B : Nat) (u v : Value) (w : World) : Prop := w.cell? ⟨B, 0, none⟩ = some u ∧ w.cell? ⟨B, 1, none⟩ = some v ∧ w.heap[B + 1]? = some (.cells #[.slice none 0 0, .slice none 0 0] 26 (0, 0))
theorem MbS.below {B : Nat} {u v : Value} {w w' : World} (h : MbS B u v w) (hb : Below w.heap.size w w') : MbS B u v w' := ⟨cell_below hb h.1, cell_below hb h.2.1, heap_keep h.2.2 hb⟩
theorem places_carried (b n : Nat) (ks : List (Int × Int)) (F : Int × Int → Value) (T : Nat) : Carried (fun w => MapP w b n ks F) 29 26 T := by
  refine ⟨fun w w' h hb => h.kept hb, fun w w' row h _ hc hg => h.grown hg (fun q => ?_), fun w w' h hT hc => h.grown (row := some T) ⟨hc.os, hc.tape, hc.output, hc.size, fun k hk hne => hc.block k hk (by have : k ≠ T := fun e => hne (by rw [e]); omega)⟩ (fun q => ?_)⟩
  · obtain ⟨c, t, fz, h1⟩ := hc b q.symm
    obtain ⟨es, ck, h2⟩ := h.isMap
    rw [h1] at h2; cases h2
  · obtain ⟨c, h1⟩ := hT
    obtain ⟨es, ck, h2⟩ := h.isMap
    simp only [Option.some.injEq] at q
    rw [← q, h2] at h1; cases h1
theorem box_carried (E T : Nat) (x y : Value) : Carried (fun w => w.heap[E]? = some (.cells #[x, y] 55 (0, 0))) 29 26 T := by
  refine ⟨fun w w' h hb => heap_keep h hb, fun w w' row h hr _ hg => heap_at_other h hg (fun q => absurd (hr _ _ _ q h) (by decide)), fun w w' h hT hc => ?_⟩
  obtain ⟨c, h1⟩ := hT
  have hne : E ≠ T := fun q => by
    rw [q, h1] at h
    simp only [Option.some.injEq, Obj.cells.injEq] at h
    exact absurd h.2.1 (by decide)
  rw [hc.block E (Array.getElem?_eq_some_iff.1 h).1 (by omega)]
  exact h
theorem carried_and {K1 K2 : World → Prop} {e tm : TypeId} {T : Nat} (h1 : Carried K1 e tm T) (h2 : Carried K2 e tm T) : Carried (fun w => K1 w ∧ K2 w) e tm T :=
  ⟨fun w w' h hb => ⟨h1.below w w' h.1 hb, h2.below w w' h.2 hb⟩, fun w w' row h hr hc hg => ⟨h1.grown w w' row h.1 hr hc hg, h2.grown w w' row h.2 hr hc hg⟩, fun w w' h hT hc => ⟨h1.store w w' h.1 hT hc, h2.store w w' h.2 hT hc⟩⟩
/-- A row of one's own is carried along by changes of blocks of other types. -/
theorem own_carried (base : Nat) (e e2 tm : TypeId) (s n T : Nat) (v : Value) (xs : List Value) (h1 : e2 ≠ e) (h2 : tm ≠ e) : Carried (fun w => w.ownsRow base e s v n xs) e2 tm T := by
  refine ⟨fun w w' h hb => own_kept h hb, fun w w' row h hr _ hg => own_grown h hg (fun b hb q => ?_), fun w w' h hT hc => ?_⟩
  · rcases h.2 with ⟨rfl, _⟩ | ⟨g, cap, cur, rfl, _, h5, _⟩
    · cases q
    · simp only [Value.ownBlock, Option.some.injEq] at q
      subst q
      exact h1 (hr _ _ _ hb h5).symm
  · obtain ⟨c, hT⟩ := hT
    refine ⟨h.1, h.2.imp id ?_⟩
    rintro ⟨g, cap, cur, hv, hb, hg, r⟩
    refine ⟨g, cap, cur, hv, hb, ?_, r⟩
    have hne : g ≠ T := fun q => by
      subst q
      rw [hT] at hg
      simp only [Option.some.injEq, Obj.cells.injEq] at hg
      exact h2 hg.2.1
    rw [hc.block g (Array.getElem?_eq_some_iff.1 hg).1 (by omega)]
    exact hg
/-- The faces laid so far: headers in a row of one's own, each face a row of its own of four numbers. -/
def FacesG (base n : Nat) (fs : Value) (F : List (List Int)) (w : World) : Prop :=
  ∃ U : Nat → Value, w.ownsRow base 57 1 fs n ((List.range n).map U) ∧ (∀ i, i < n → (F.getD i []).length = 4 ∧ w.ownsRow base 3 1 (U i) 4 ((F.getD i []).map (.int .i64))) ∧ ∀ i j, i < j → j < n → (U i).ownBlock ≠ (U j).ownBlock
theorem facesG_of {base n : Nat} {fs : Value} {F : List (List Int)} {w : World} (h : FacesT base n fs F w) : FacesG base n fs F w := by
  obtain ⟨B, f1, f2, f3⟩ := h
  refine ⟨fun i => .slice (some ⟨B i, 0, none⟩) 4 4, f1, fun i hi => ?_, fun i j hij hj q => ?_⟩
  · obtain ⟨b1, b2, b3⟩ := f2 i hi
    have b4 : ((F.getD i []).map (Value.int .i64)).length = 4 := by rw [List.length_map]; exact b2
    refine ⟨b2, b4, .inr ⟨B i, 4, _, rfl, b1, b3, Nat.le_refl _, by simp [maxLen], b4, ?_⟩⟩
    exact List.take_of_length_le (by rw [b4]; decide)
  · simp only [Value.ownBlock, Option.some.injEq] at q
    exact f3 i j hij hj q
/-- The rows of the first n faces. -/
def FaceRows (base n : Nat) (U : Nat → Value) (F : List (List Int)) (w : World) : Prop := ∀ i, i < n → (F.getD i []).length = 4 ∧ w.ownsRow base 3 1 (U i) 4 ((F.getD i []).map (.int .i64))
theorem face_rows_carried (base n T : Nat) (U : Nat → Value) (F : List (List Int)) (e tm : TypeId) (h1 : e ≠ 3) (h2 : tm ≠ 3) : Carried (FaceRows base n U F) e tm T :=
  ⟨fun w w' h hb i hi => ⟨(h i hi).1, (own_carried base 3 e tm 1 4 T (U i) _ h1 h2).below w w' (h i hi).2 hb⟩, fun w w' row h hr hc hg i hi => ⟨(h i hi).1, (own_carried base 3 e tm 1 4 T (U i) _ h1 h2).grown w w' row (h i hi).2 hr hc hg⟩, fun w w' h hT hc i hi => ⟨(h i hi).1, (own_carried base 3 e tm 1 4 T (U i) _ h1 h2).store w w' (h i hi).2 hT hc⟩⟩
/-- One face more. -/
theorem facesG_snoc {base base2 n : Nat} {fs' u : Value} {U : Nat → Value} {F : List (List Int)} {f : List Int} {w w0 : World} (hF : F.length = n) (hf : f.length = 4) (h0 : ∀ i, i < n → w0.ownsRow base 3 1 (U i) 4 ((F.getD i []).map (.int .i64))) (hw : w0.heap.size ≤ base2) (hb : base ≤ base2) (h1 : w.ownsRow base 57 1 fs' (n + 1) ((List.range n).map U ++ [u])) (h2 : FaceRows base n U F w) (h3 : w.ownsRow base2 3 1 u 4 (f.map (.int .i64))) (hd : ∀ i j, i < j → j < n → (U i).ownBlock ≠ (U j).ownBlock) : FacesG base (n + 1) fs' (F ++ [f]) w := by
  have hlt : ∀ i, i < n → (if i < n then U i else u) = U i := fun i hi => if_pos hi
  have hge : (if n < n then U n else u) = u := if_neg (Nat.lt_irrefl _)
  refine ⟨fun i => if i < n then U i else u, ?_, fun i hi => ?_, fun i j hij hj => ?_⟩
  · have e : (List.range (n + 1)).map (fun i => if i < n then U i else u) = (List.range n).map U ++ [u] := by
      rw [List.range_succ, List.map_append]
      congr 1
      · exact List.map_congr_left fun i hi => hlt i (List.mem_range.1 hi)
      · simp
    rw [e]; exact h1
  · by_cases hin : i < n
    · dsimp only
      rw [hlt i hin, List.getD_eq_getElem?_getD, List.getElem?_append_left (by omega), ← List.getD_eq_getElem?_getD]
      exact h2 i hin
    · obtain rfl : i = n := by omega
      dsimp only
      rw [hge, show (F ++ [f]).getD i [] = f by rw [List.getD_eq_getElem?_getD, List.getElem?_append_right (by omega)]; simp [hF]]
      exact ⟨hf, own_base h3 hb⟩
  · by_cases hjn : j < n
    · dsimp only
      rw [hlt i (by omega), hlt j hjn]
      exact hd i j hij hjn
    · obtain rfl : j = n := by omega
      dsimp only
      rw [hlt i hij, hge]
      intro q
      cases hu : u.ownBlock with
      | none =>
        rcases h3.2 with ⟨_, h4⟩ | ⟨g, cap, cur, e, _⟩
        · omega
        · rw [e] at hu; cases hu
      | some g =>
        rw [hu] at q
        have h5 := ((h0 i hij).lt g q).2
        have h6 := (h3.lt g hu).1
        omega
theorem FacesG.base {b b' n : Nat} {fs : Value} {F : List (List Int)} {w : World} (h : FacesG b n fs F w) (hb : b' ≤ b) : FacesG b' n fs F w := by
  obtain ⟨U, h1, h2, h3⟩ := h
  exact ⟨U, own_base h1 hb, fun i hi => ⟨(h2 i hi).1, own_base (h2 i hi).2 hb⟩, h3⟩
theorem FacesG.chg {w w' : World} {base lo hi n : Nat} {fs : Value} {F : List (List Int)} (h : FacesG base n fs F w) (k : Chg lo hi w w') (hd : hi ≤ base) : FacesG base n fs F w' := by
  obtain ⟨U, h1, h2, h3⟩ := h
  exact ⟨U, own_chg h1 k hd, fun i hi => ⟨(h2 i hi).1, own_chg (h2 i hi).2 k hd⟩, h3⟩
theorem FacesG.below {w w' : World} {base n : Nat} {fs : Value} {F : List (List Int)} (h : FacesG base n fs F w) (hb : Below w.heap.size w w') : FacesG base n fs F w' := by
  obtain ⟨U, h1, h2, h3⟩ := h
  exact ⟨U, own_kept h1 hb, fun i hi => ⟨(h2 i hi).1, own_kept (h2 i hi).2 hb⟩, h3⟩
theorem FacesG.nil (w : World) (base : Nat) : FacesG base 0 (.slice none 0 0) [] w := ⟨fun _ => undef, World.ownsRow_nil _ _ _ _, fun _i hi => absurd hi (Nat.not_lt_zero _), fun _i _j _ hj => absurd hj (Nat.not_lt_zero _)⟩
theorem facesG_carried (base n T : Nat) (fs : Value) (F : List (List Int)) : Carried (FacesG base n fs F) 29 26 T :=
  ⟨fun w w' ⟨U, h1, h2, h3⟩ hb => ⟨U, own_kept h1 hb, (face_rows_carried base n T U F 29 26 (by decide) (by decide)).below w w' h2 hb, h3⟩,
   fun w w' row ⟨U, h1, h2, h3⟩ hr hc hg => ⟨U, (own_carried base 57 29 26 1 n T fs _ (by decide) (by decide)).grown w w' row h1 hr hc hg, (face_rows_carried base n T U F 29 26 (by decide) (by decide)).grown w w' row h2 hr hc hg, h3⟩,
   fun w w' ⟨U, h1, h2, h3⟩ hT hc => ⟨U, (own_carried base 57 29 26 1 n T fs _ (by decide) (by decide)).store w w' h1 hT hc, (face_rows_carried base n T U F 29 26 (by decide) (by decide)).store w w' h2 hT hc, h3⟩⟩
/-- There are at least so many blocks. -/
theorem size_carried (n T : Nat) (e tm : TypeId) : Carried (fun w => n ≤ w.heap.size) e tm T :=
  ⟨fun _ _ h hb => Nat.le_trans h hb.size, fun _ _ _ h _ _ hg => Nat.le_trans h hg.size, fun _ _ h _ hc => Nat.le_trans h hc.size⟩
/-- A box of an edge is carried along. -/
theorem boxE_carried (E T : Nat) (c : Array Value) (e tm : TypeId) (h1 : e ≠ 55) (h2 : tm ≠ 55) : Carried (fun w => w.heap[E]? = some (.cells c 55 (0, 0))) e tm T := by
  refine ⟨fun w w' h hb => heap_keep h hb, fun w w' row h hr _ hg => heap_at_other h hg (fun q => h1 (hr _ _ _ q h).symm), fun w w' h hT hc => ?_⟩
  obtain ⟨c1, hT⟩ := hT
  have hne : E ≠ T := fun q => by
    rw [q, hT] at h
    simp only [Option.some.injEq, Obj.cells.injEq] at h
    exact h2 h.2.1
  rw [hc.block E (Array.getElem?_eq_some_iff.1 h).1 (by omega)]
  exact h
theorem placesE_carried (b n : Nat) (ks : List (Int × Int)) (F : Int × Int → Value) (T : Nat) (e tm : TypeId) : Carried (fun w => MapP w b n ks F) e tm T := by
  refine ⟨fun w w' h hb => h.kept hb, fun w w' row h _ hc hg => h.grown hg (fun q => ?_), fun w w' h hT hc => h.grown (row := some T) ⟨hc.os, hc.tape, hc.output, hc.size, fun k hk hne => hc.block k hk (by have : k ≠ T := fun e => hne (by rw [e]); omega)⟩ (fun q => ?_)⟩
  · obtain ⟨c, t, fz, h1⟩ := hc b q.symm
    obtain ⟨es, ck, h2⟩ := h.isMap
    rw [h1] at h2; cases h2
  · obtain ⟨c, h1⟩ := hT
    obtain ⟨es, ck, h2⟩ := h.isMap
    simp only [Option.some.injEq] at q
    rw [← q, h2] at h1; cases h1
theorem place_at {L : List (Int × Int)} {P : Int × Int → Value} {nV : Nat} (h : ∀ i, i < L.length → P (L.getD i (0, 0)) = .int .i64 ((nV : Int) + (i : Int))) {e : Int × Int} (he : e ∈ L) : P e = .int .i64 ((nV : Int) + (placeE L e : Int)) := by
  have hi := placeE_lt he
  have h1 := h _ hi
  have h2 : L[placeE L e]'hi = e := List.getElem_idxOf hi
  rw [List.getD_eq_getElem?_getD, List.getElem?_eq_getElem hi, Option.getD_some, h2] at h1
  exact h1
/-- The mesh under way: its box T, the vertices' row, the faces' row; the map of places. -/
structure SubU (base T : Nat) (V : List VecD) (F : List (List Int)) (vs fs : Value) (bP n : Nat) (ks : List (Int × Int)) (P : Int × Int → Value) (w : World) : Prop where
  box : w.heap[T]? = some (.cells #[vs, fs] 26 (0, 0))
  own : w.ownsRow base 29 3 vs V.length (vecVals V)
  fac : FacesG base F.length fs F w
  map : MapP w bP n ks P
theorem SubU.below {base T : Nat} {V : List VecD} {F : List (List Int)} {vs fs : Value} {bP n : Nat} {ks : List (Int × Int)} {P : Int × Int → Value} {w w' : World} (h : SubU base T V F vs fs bP n ks P w) (hb : Below w.heap.size w w') : SubU base T V F vs fs bP n ks P w' :=
  ⟨heap_keep h.box hb, own_kept h.own hb, h.fac.below hb, h.map.kept hb⟩
/-- What a round of subdivision gives. -/
def SubEG (p : MeshD) (w : World) (e : Ending) (w' : World) : Prop :=
  ∃ vs fs, e = .returned (.tuple #[.agg #[vs, fs], .bool true]) ∧ w'.ownsRow w.heap.size 29 3 vs (subVs p).length (vecVals (subVs p)) ∧ FacesG w.heap.size (subFs p).length fs (subFs p) w' ∧ Below w.heap.size w w'
end Go.Proofs.Ytpfmcobkfofbjaa
