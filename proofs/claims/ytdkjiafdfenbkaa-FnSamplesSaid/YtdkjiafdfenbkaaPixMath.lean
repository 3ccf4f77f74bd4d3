/- The samples of a pixel, plainly. -/
import Derived.Test.YtdkjiafdfenbkaaSSample
import Derived.Test.YtdkjiafdfenbkaaSInt
import Derived.Test.YtdkjiafdfenbkaaHash
import Derived.Test.YtdkjiafdfenbkaaCam
import Derived.Test.YtdkjiafdfenbkaaAppend
import Derived.Deep.RegionHeld3
import Derived.Deep.AppendLies
import Derived.IntWalk
import Derived.Test.YtdkjiafdfenbkaaOpenS
namespace Go.Proofs.Ytdkjiafdfenbkaa
open Go Go.RowKit
def hashQ (i j : Int) (k : Nat) (p m : Int) : Int := hashR [i, j, (k : Int), p] m
/-- Sample k of a pixel with s squares on a side. -/
def sampleAt (i j : Int) (s k : Nat) : SampleD :=
  ⟨i * 16 + (k : Int) % (s : Int) * (16 / (s : Int)) + hashQ i j k 1 (16 / (s : Int)), j * 16 + (k : Int) / (s : Int) * (16 / (s : Int)) + hashQ i j k 2 (16 / (s : Int)), hashQ i j k 3 16, hashQ i j k 4 33 - 16, hashQ i j k 5 33 - 16⟩
def samplesF (i j : Int) (s : Nat) : List SampleD := (List.range 16).map (sampleAt i j s)
theorem samplesF_at (i j : Int) (s k : Nat) (h : k < 16) : SampleD.at (samplesF i j s) k = (sampleAt i j s k).cells := by
  unfold SampleD.at samplesF
  rw [List.getD_eq_getElem?_getD, List.getElem?_map, List.getElem?_range h]; rfl
theorem hashR_bd (l : List Int) (m : Int) (h : 1 ≤ m) : 0 ≤ hashR l m ∧ hashR l m < m := by
  unfold hashR
  rw [if_neg (by omega)]
  exact ⟨Int.emod_nonneg _ (by omega), Int.emod_lt_of_pos _ (by omega)⟩
theorem own_below {w w' : World} {base : Nat} {e : TypeId} {s : Nat} {v : Value} {n : Nat} {xs : List Value} (h : w.ownsRow base e s v n xs) (b : Below w.heap.size w w') : w'.ownsRow base e s v n xs := by
  obtain ⟨X, d, rfl⟩ := Below.ext b
  exact own_more h X d
theorem cell_grown {w w' : World} {row : Option Nat} {b o : Nat} {v : Value} (h : w.grownBy w' row) (hne : row ≠ some b) (c : w.cell? ⟨b, o, none⟩ = some v) : w'.cell? ⟨b, o, none⟩ = some v :=
  (World.cell?_of_block (h.block b (World.block_lt_of_cell? _ _ c) (fun e => hne e.symm))).trans c
structure PixF (i j : Int) (k : Nat) (s t : Int) : Prop where
  a : IntKind.i64.wrap (i * 16) = i * 16
  b : (k : Int).tmod s = (k : Int) % s
  c : IntKind.i64.wrap ((k : Int) % s * t) = (k : Int) % s * t
  d : IntKind.i64.wrap (i * 16 + (k : Int) % s * t) = i * 16 + (k : Int) % s * t
  e : IntKind.i64.wrap (i * 16 + (k : Int) % s * t + hashQ i j k 1 t) = i * 16 + (k : Int) % s * t + hashQ i j k 1 t
  f : IntKind.i64.wrap (j * 16) = j * 16
  g : IntKind.i64.wrap ((k : Int) / s) = (k : Int) / s
  h : IntKind.i64.wrap ((k : Int) / s * t) = (k : Int) / s * t
  l : IntKind.i64.wrap (j * 16 + (k : Int) / s * t) = j * 16 + (k : Int) / s * t
  m : IntKind.i64.wrap (j * 16 + (k : Int) / s * t + hashQ i j k 2 t) = j * 16 + (k : Int) / s * t + hashQ i j k 2 t
  n : IntKind.i64.wrap (hashQ i j k 4 33 - 16) = hashQ i j k 4 33 - 16
  o : IntKind.i64.wrap (hashQ i j k 5 33 - 16) = hashQ i j k 5 33 - 16
theorem pixF {i j : Int} {k : Nat} {s t : Int} (hs : (s = 1 ∧ t = 16) ∨ (s = 2 ∧ t = 8) ∨ (s = 4 ∧ t = 4)) (i1 : 0 ≤ i) (i2 : i ≤ 11) (j1 : 0 ≤ j) (j2 : j ≤ 11) (hk : k < 16) : PixF i j k s t := by
  have h1 : 0 ≤ hashQ i j k 1 t ∧ hashQ i j k 1 t < t := hashR_bd _ _ (by omega)
  have h2 : 0 ≤ hashQ i j k 2 t ∧ hashQ i j k 2 t < t := hashR_bd _ _ (by omega)
  have h4 : 0 ≤ hashQ i j k 4 33 ∧ hashQ i j k 4 33 < 33 := hashR_bd _ _ (by omega)
  have h5 : 0 ≤ hashQ i j k 5 33 ∧ hashQ i j k 5 33 < 33 := hashR_bd _ _ (by omega)
  have e1 : (k : Int).tmod s = (k : Int) % s := Int.tmod_eq_emod_of_nonneg (by omega)
  have e2 : (k : Int).tdiv s = (k : Int) / s := Int.tdiv_eq_ediv_of_nonneg (by omega)
  rcases hs with ⟨rfl, rfl⟩ | ⟨rfl, rfl⟩ | ⟨rfl, rfl⟩
  all_goals
    refine ⟨?_, e1, ?_, ?_, ?_, ?_, ?_, ?_, ?_, ?_, ?_, ?_⟩
    all_goals first
      | exact IntWalk.i64_in _ (by omega)
      | (rw [e2]; exact IntWalk.i64_in _ (by omega))
theorem pixF1 {i j : Int} {k : Nat} (i1 : 0 ≤ i) (i2 : i ≤ 11) (j1 : 0 ≤ j) (j2 : j ≤ 11) (hk : k < 16) :
    IntKind.i64.wrap (i * 16) = i * 16 ∧ IntKind.i64.wrap 0 = 0 ∧ IntKind.i64.wrap (i * 16 + hashQ i j k 1 16) = i * 16 + hashQ i j k 1 16 ∧ IntKind.i64.wrap (j * 16) = j * 16 ∧ IntKind.i64.wrap (k : Int) = (k : Int) ∧
      IntKind.i64.wrap (j * 16 + (k : Int) * 16) = j * 16 + (k : Int) * 16 ∧ (IntKind.i64.wrap ((k : Int) * 16) = (k : Int) * 16 ∧ IntKind.i64.wrap (j * 16 + (k : Int) * 16 + hashQ i j k 2 16) = j * 16 + (k : Int) * 16 + hashQ i j k 2 16) := by
  have h1 : 0 ≤ hashQ i j k 1 16 ∧ hashQ i j k 1 16 < 16 := hashR_bd _ _ (by omega)
  have h2 : 0 ≤ hashQ i j k 2 16 ∧ hashQ i j k 2 16 < 16 := hashR_bd _ _ (by omega)
  refine ⟨?_, ?_, ?_, ?_, ?_, ?_, ?_, ?_⟩ <;> exact IntWalk.i64_in _ (by omega)
def sideB (x : Int) : Bool := x == 1 || (x == 2 || x == 4)
end Go.Proofs.Ytdkjiafdfenbkaa
