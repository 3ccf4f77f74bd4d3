/- Mesh2, with Rows2, Mesh ahead of it. -/
import Derived.Test.YtpfmcobkfofbjaaSInt
import Derived.Test.YtpfmcobkfofbjaaSVec
import Derived.Test.YtpfmcobkfofbjaaOpen
namespace Go.Proofs.Ytpfmcobkfofbjaa
open Go Go.RowKit
def upd {α : Type} (A : Nat → α) (k : Nat) (a : α) : Nat → α := fun i => if i = k then a else A i
theorem upd_self {α : Type} {A : Nat → α} {k : Nat} {a : α} : upd A k a k = a := by simp [upd]
theorem upd_lt {α : Type} {A : Nat → α} {k i : Nat} {a : α} (h : i < k) : upd A k a i = A i := by simp [upd, Nat.ne_of_lt h]
/-- n slices of integers, each in blocks of its own: those of row i from b i on and before b (i + 1). -/
def RowsB (w : World) (b : Nat → Nat) (n : Nat) (A : Nat → Option Addr) (l : Nat → List Int) : Prop :=
  (∀ i, i < n → b i ≤ b (i + 1)) ∧ ∀ i, i < n → Ow w (b i) (b (i + 1)) (A i) 1 (l i).length (intAt (l i))
theorem RowsB.le {w : World} {b : Nat → Nat} {n : Nat} {A : Nat → Option Addr} {l : Nat → List Int} (h : RowsB w b n A l) : ∀ {i j : Nat}, i ≤ j → j ≤ n → b i ≤ b j := by
  intro i j hij
  induction hij with
  | refl => intro _; exact Nat.le_refl _
  | step hij ih => intro hj; exact Nat.le_trans (ih (by omega)) (h.1 _ (by omega))
def Rows (w : World) (lo hi n : Nat) (A : Nat → Option Addr) (l : Nat → List Int) : Prop := ∃ b : Nat → Nat, lo ≤ b 0 ∧ b n ≤ hi ∧ RowsB w b n A l
theorem Rows.zero {w : World} {lo hi : Nat} {A : Nat → Option Addr} {l : Nat → List Int} (h : lo ≤ hi) : Rows w lo hi 0 A l := ⟨fun _ => lo, Nat.le_refl _, h, fun _ hi => absurd hi (Nat.not_lt_zero _), fun _ hi => absurd hi (Nat.not_lt_zero _)⟩
theorem Rows.chg {w w' : World} {lo hi lo' hi' n : Nat} {A : Nat → Option Addr} {l : Nat → List Int} (h : Rows w lo hi n A l) (k : Chg lo' hi' w w') (hd : hi ≤ lo' ∨ hi' ≤ lo) : Rows w' lo hi n A l := by
  obtain ⟨b, h1, h2, hb⟩ := h
  refine ⟨b, h1, h2, hb.1, fun i hi => (hb.2 i hi).chg k ?_⟩
  have e1 := hb.le (Nat.zero_le i) (Nat.le_of_lt hi)
  have e2 := hb.le (show i + 1 ≤ n by omega) (Nat.le_refl n)
  omega
theorem Rows.below {w w' : World} {lo hi n : Nat} {A : Nat → Option Addr} {l : Nat → List Int} (h : Rows w lo hi n A l) (k : Below w.heap.size w w') : Rows w' lo hi n A l :=
  h.chg (Chg.of_below (lo := hi) (hi := hi) k) (.inl (Nat.le_refl _))
theorem Rows.at {w : World} {lo hi n : Nat} {A : Nat → Option Addr} {l : Nat → List Int} (h : Rows w lo hi n A l) {i : Nat} (hi' : i < n) : Ow w lo hi (A i) 1 (l i).length (intAt (l i)) := by
  obtain ⟨b, h1, h2, hb⟩ := h
  have e1 := hb.le (Nat.zero_le i) (Nat.le_of_lt hi')
  have e2 := hb.le (show i + 1 ≤ n by omega) (Nat.le_refl n)
  exact (hb.2 i hi').wide (by omega) (by omega)
theorem Rows.snoc {w : World} {lo hi lo2 hi2 k : Nat} {A : Nat → Option Addr} {l : Nat → List Int} {a : Option Addr} (h : Rows w lo hi k A l) (ho : Ow w lo2 hi2 a 1 (l k).length (intAt (l k))) (h1 : hi ≤ lo2) (h2 : lo2 ≤ hi2) : Rows w lo hi2 (k + 1) (upd A k a) l := by
  obtain ⟨b, b1, b2, hb⟩ := h
  refine ⟨fun i => if i ≤ k then b i else hi2, by simpa using b1, (by show (if k + 1 ≤ k then b (k + 1) else hi2) ≤ hi2; rw [if_neg (by omega)]; exact Nat.le_refl _), fun i hi => ?_, fun i hi => ?_⟩
  · by_cases hik : i = k
    · subst hik
      show (if i ≤ i then b i else hi2) ≤ (if i + 1 ≤ i then b (i + 1) else hi2)
      rw [if_pos (Nat.le_refl _), if_neg (by omega)]; omega
    · have h3 : i < k := by omega
      simp only [show i ≤ k by omega, show i + 1 ≤ k by omega, if_true]
      exact hb.1 i h3
  · by_cases hik : i = k
    · subst hik
      simp only [Nat.le_refl, if_true, show ¬ i + 1 ≤ i by omega, if_false, upd_self]
      exact ho.wide (by omega) (Nat.le_refl _)
    · have h3 : i < k := by omega
      simp only [show i ≤ k by omega, show i + 1 ≤ k by omega, if_true, upd_lt h3]
      exact hb.2 i h3
theorem Rows.wide {w : World} {lo hi lo' hi' n : Nat} {A : Nat → Option Addr} {l : Nat → List Int} (h : Rows w lo hi n A l) (h1 : lo' ≤ lo) (h2 : hi ≤ hi') : Rows w lo' hi' n A l := by
  obtain ⟨b, b1, b2, hb⟩ := h
  exact ⟨b, by omega, by omega, hb⟩
theorem Rows.congr {w : World} {lo hi n : Nat} {A B : Nat → Option Addr} {l : Nat → List Int} (h : Rows w lo hi n A l) (e : ∀ i, i < n → A i = B i) : Rows w lo hi n B l := by
  obtain ⟨b, b1, b2, hb⟩ := h
  exact ⟨b, b1, b2, hb.1, fun i hi => by rw [← e i hi]; exact hb.2 i hi⟩
theorem heap_more_past {A : World} {X : Array Obj} {d k : Nat} (h : A.heap.size ≤ k) : (more A X d).heap[k]? = X[k - A.heap.size]? := by
  simp only [more]
  rw [Array.getElem?_append_right h]
/-- What lies behind a world lies there behind another of the same size. -/
theorem Ow.move {A B : World} {X : Array Obj} {d d' lo hi s n : Nat} {a : Option Addr} {C : Nat → List Value} (h : Ow (more A X d) lo hi a s n C) (hlo : A.heap.size ≤ lo) (hs : B.heap.size = A.heap.size) : Ow (more B X d') lo hi a s n C := by
  intro hn
  obtain ⟨g, arr, e, rfl, h1, h2, hg, hl, hx⟩ := h hn
  refine ⟨g, arr, e, rfl, h1, h2, ?_, hl, hx⟩
  rw [heap_more_past (by omega)] at hg ⊢
  rw [hs]; exact hg
theorem Rows.move {A B : World} {X : Array Obj} {d d' lo hi n : Nat} {a : Nat → Option Addr} {l : Nat → List Int} (h : Rows (more A X d) lo hi n a l) (hlo : A.heap.size ≤ lo) (hs : B.heap.size = A.heap.size) : Rows (more B X d') lo hi n a l := by
  obtain ⟨b, b1, b2, hb⟩ := h
  exact ⟨b, b1, b2, hb.1, fun i hi => (hb.2 i hi).move (by have := hb.le (Nat.zero_le i) (Nat.le_of_lt hi); omega) hs⟩
theorem more_app {w : World} {X Y : Array Obj} {d d' : Nat} : Below (more w X d).heap.size (more w X d) (more w (X ++ Y) d') :=
  ⟨rfl, rfl, rfl, by simp, fun k hk => by
    have e : (more w (X ++ Y) d').heap = (more w X d).heap ++ Y := by simp [more]
    rw [e, Array.getElem?_append_left hk]⟩
/-- A block of one's own written anew, with more blocks behind it. -/
theorem chg_alloc {w : World} {arr arr' : List Value} {e : TypeId} {X Y : Array Obj} {d d' : Nat} : Chg w.heap.size (w.heap.size + 1) (more (w.alloc (.cells ⟨arr⟩ e)) X d) (more (w.alloc (.cells ⟨arr'⟩ e)) (X ++ Y) d') := by
  refine ⟨rfl, rfl, rfl, by simp, fun k hk ho => ?_⟩
  have e1 : ∀ (a : List Value) (Z : Array Obj) (d : Nat), (more (w.alloc (.cells ⟨a⟩ e)) Z d).heap = (w.heap.push (.cells ⟨a⟩ e)) ++ Z := fun a Z d => rfl
  have hk' : k < w.heap.size + 1 + X.size := by simpa [Nat.add_assoc] using hk
  rw [e1, e1]
  simp only [Array.getElem?_append, Array.size_push]
  rcases ho with ho | ho
  · rw [if_pos (by omega), if_pos (by omega), Array.getElem?_push, Array.getElem?_push, if_neg (by omega), if_neg (by omega)]
  · have hn : ¬ k < w.heap.size + 1 := by omega
    simp only [hn, if_false]
    rw [if_pos (by omega)]
theorem Filled.congr {arr : List Value} {s n k : Nat} {C D : Nat → List Value} (h : Filled arr s n k C) (e : ∀ i, i < k → C i = D i) : Filled arr s n k D :=
  ⟨h.1, fun i hi j hj => by rw [h.2 i hi j hj, e i hi]⟩
end Go.Proofs.Ytpfmcobkfofbjaa
namespace Go.Proofs.Ytpfmcobkfofbjaa
open Go Go.RowKit
def faceAt (l : List (List Int)) (i : Nat) : List Int := l.getD i []
def facesAt (l : List (List Int)) (A : Nat → Option Addr) (K : Nat → Nat) (i : Nat) : List Value := [.slice (A i) (faceAt l i).length (K i)]
/-- The slice at a reads as the faces l. -/
def FsR (w : World) (a : Option Addr) (n : Nat) (l : List (List Int)) : Prop :=
  ∃ A K, Sl w a 1 n (facesAt l A K) ∧ (∀ i, i < n → Sl w (A i) 1 (faceAt l i).length (intAt (faceAt l i))) ∧ ∀ i, i < n → (faceAt l i).length ≤ K i
/-- .. in blocks of one's own. -/
def FsO (w : World) (lo hi : Nat) (a : Option Addr) (n : Nat) (l : List (List Int)) : Prop :=
  ∃ A K, Ow w lo (lo + 1) a 1 n (facesAt l A K) ∧ Rows w (lo + 1) hi n A (faceAt l) ∧ ∀ i, i < n → (faceAt l i).length ≤ K i
theorem FsR.below {w w' : World} {a : Option Addr} {n : Nat} {l : List (List Int)} (h : FsR w a n l) (b : Below w.heap.size w w') : FsR w' a n l := by
  obtain ⟨A, K, h1, h2, h3⟩ := h
  exact ⟨A, K, h1.below b, fun i hi => (h2 i hi).below b, h3⟩
theorem FsO.r {w : World} {lo hi : Nat} {a : Option Addr} {n : Nat} {l : List (List Int)} (h : FsO w lo hi a n l) : FsR w a n l := by
  obtain ⟨A, K, h1, h2, h3⟩ := h
  exact ⟨A, K, h1.sl, fun i hi => (h2.at hi).sl, h3⟩
theorem FsO.chg {w w' : World} {lo hi lo' hi' : Nat} {a : Option Addr} {n : Nat} {l : List (List Int)} (h : FsO w lo hi a n l) (k : Chg lo' hi' w w') (hd : hi ≤ lo' ∨ hi' ≤ lo) (hl : lo + 1 ≤ hi) : FsO w' lo hi a n l := by
  obtain ⟨A, K, h1, h2, h3⟩ := h
  exact ⟨A, K, h1.chg k (by omega), h2.chg k (by omega), h3⟩
theorem FsO.below {w w' : World} {lo hi : Nat} {a : Option Addr} {n : Nat} {l : List (List Int)} (h : FsO w lo hi a n l) (b : Below w.heap.size w w') : FsO w' lo hi a n l := by
  obtain ⟨A, K, h1, h2, h3⟩ := h
  exact ⟨A, K, h1.below b, h2.below b, h3⟩
theorem FsO.move {A B : World} {X : Array Obj} {d d' lo hi n : Nat} {a : Option Addr} {l : List (List Int)} (h : FsO (more A X d) lo hi a n l) (hlo : A.heap.size ≤ lo) (hs : B.heap.size = A.heap.size) : FsO (more B X d') lo hi a n l := by
  obtain ⟨A', K, h1, h2, h3⟩ := h
  exact ⟨A', K, h1.move hlo hs, h2.move (by omega) hs, h3⟩
/-- A mesh: its vertices, its faces. -/
structure MeshD where
  verts : List VecD
  faces : List (List Int)
  nV : Nat
  nF : Nat
  hV : verts.length = nV
  hF : faces.length = nF
def MeshR (w : World) (v : Value) (p : MeshD) : Prop :=
  ∃ a c a' c', v = .agg #[.slice a p.nV c, .slice a' p.nF c'] ∧ Sl w a 3 p.nV (VecD.at p.verts) ∧ FsR w a' p.nF p.faces
def MeshO (w : World) (lo hi : Nat) (v : Value) (p : MeshD) : Prop :=
  ∃ l1 mid a c a' c', v = .agg #[.slice a p.nV c, .slice a' p.nF c'] ∧ lo ≤ l1 ∧ l1 ≤ mid ∧ mid + 1 ≤ hi ∧ Ow w l1 mid a 3 p.nV (VecD.at p.verts) ∧ FsO w mid hi a' p.nF p.faces
theorem MeshR.below {w w' : World} {v : Value} {p : MeshD} (h : MeshR w v p) (b : Below w.heap.size w w') : MeshR w' v p := by
  obtain ⟨a, c, a', c', e, h1, h2⟩ := h
  exact ⟨a, c, a', c', e, h1.below b, h2.below b⟩
theorem MeshO.r {w : World} {lo hi : Nat} {v : Value} {p : MeshD} (h : MeshO w lo hi v p) : MeshR w v p := by
  obtain ⟨l1, mid, a, c, a', c', e, _, _, _, h1, h2⟩ := h
  exact ⟨a, c, a', c', e, h1.sl, h2.r⟩
theorem MeshO.chg {w w' : World} {lo hi lo' hi' : Nat} {v : Value} {p : MeshD} (h : MeshO w lo hi v p) (k : Chg lo' hi' w w') (hd : hi ≤ lo' ∨ hi' ≤ lo) : MeshO w' lo hi v p := by
  obtain ⟨l1, mid, a, c, a', c', e, k1, k2, k3, h1, h2⟩ := h
  exact ⟨l1, mid, a, c, a', c', e, k1, k2, k3, h1.chg k (by omega), h2.chg k (by omega) k3⟩
theorem MeshO.below {w w' : World} {lo hi : Nat} {v : Value} {p : MeshD} (h : MeshO w lo hi v p) (b : Below w.heap.size w w') : MeshO w' lo hi v p :=
  h.chg (Chg.of_below (lo := hi) (hi := hi) b) (.inl (Nat.le_refl _))
theorem FsO.wide {w : World} {lo hi hi' : Nat} {a : Option Addr} {n : Nat} {l : List (List Int)} (h : FsO w lo hi a n l) (h2 : hi ≤ hi') : FsO w lo hi' a n l := by
  obtain ⟨A, K, k1, k2, k3⟩ := h
  exact ⟨A, K, k1, k2.wide (Nat.le_refl _) h2, k3⟩
theorem MeshO.wide {w : World} {lo hi lo' hi' : Nat} {v : Value} {p : MeshD} (h : MeshO w lo hi v p) (h1 : lo' ≤ lo) (h2 : hi ≤ hi') : MeshO w lo' hi' v p := by
  obtain ⟨l1, mid, a, c, a', c', e, k1, k2, k3, k4, k5⟩ := h
  exact ⟨l1, mid, a, c, a', c', e, by omega, k2, by omega, k4, k5.wide h2⟩
/-- The lengths are within bounds. -/
def MeshSz (B : Nat) (p : MeshD) : Prop := p.nV ≤ B ∧ p.nF ≤ B ∧ ∀ i, i < p.nF → (faceAt p.faces i).length ≤ B
end Go.Proofs.Ytpfmcobkfofbjaa
namespace Go.Proofs.Ytpfmcobkfofbjaa
open Go Go.RowKit
end Go.Proofs.Ytpfmcobkfofbjaa
