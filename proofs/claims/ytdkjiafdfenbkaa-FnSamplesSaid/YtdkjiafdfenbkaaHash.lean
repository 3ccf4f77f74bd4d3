/- Contracts of the hash of integers. -/
import Derived.Test.YtdkjiafdfenbkaaRow
import Derived.Test.YtdkjiafdfenbkaaNum
import Derived.Test.YtdkjiafdfenbkaaHashMath
namespace Go.Proofs.Ytdkjiafdfenbkaa
open Go.RowKit
def hashR (ns : List Int) (m : Int) : Int := if m < 1 then 0 else hashI ns % m
theorem impl_floorMod (a b : Int) (w : World) (h1 : -9000000000000000000 ≤ a) (h2 : a ≤ 9000000000000000000) (h3 : -9000000000000000000 ≤ fdivI a b * b) (h4 : fdivI a b * b ≤ 9000000000000000000) (h5 : -9223372036854775808 ≤ a - fdivI a b * b) (h6 : a - fdivI a b * b ≤ 9223372036854775807) :
    Calls Try.prog 23 #[.int .i64 a, .int .i64 b] w fun e w' => e = .returned (.int .i64 (a - fdivI a b * b)) ∧ w = w' := by
  go_enter Try.func23, Try.ntmps23
  go_wp2_with (go_at_call 25; refine (impl_FloorDiv _ _ _ (by omega) (by omega)).mono ?_; rintro e w' ⟨rfl, rfl⟩)
  go_ret
  exact ⟨rfl, rfl⟩
set_option maxRecDepth 100000 in
theorem impl_HashInts_core (v : Value) (ns : List Int) (n : Nat) (HN : Hid (ns.length = n)) (w : World) (hr : Row w v 1 n (ns.map (.int .i64))) (hn : n ≤ 1048576) :
    Calls Try.prog 22 #[v] w fun e w' => e = .returned (.int .i64 (hashI ns)) ∧ w = w' := by
  rcases hr.2 with ⟨rfl, a, cap, rfl⟩ | ⟨b, o, cap, rfl, h0, hb, hc⟩
  · obtain rfl : ns = [] := List.length_eq_zero_iff.1 HN.out
    clear hr HN
    go_enter Try.func22, Try.ntmps22
    go_wp2
    go_rounds 1
    go_ret
    exact ⟨rfl, rfl⟩
  · clear hr
    have hc' : ∀ j, j < n → w.cell? ⟨b, o + j, none⟩ = some (.int .i64 (ns.getD j 0)) := fun j hj => by rw [hc j (by omega), cell_map (by rw [HN.out]; exact hj)]
    have HC := Lib.hid hc'
    clear hc hc'
    go_enter Try.func22, Try.ntmps22
    go_wp2
    go_loop [3, 8] (fun h i => ∃ k : Nat, k ≤ n ∧ i = .int .i64 k ∧ h = .int .i64 (hashI (ns.take k))) (fun _ i => n - (intOf i).toNat)
    case atStart => exact ⟨0, by omega, rfl, rfl⟩
    case round =>
      obtain ⟨k, hk, rfl, rfl⟩ := hrel
      by_cases hlt : k < n
      · have hck := HC.out k hlt
        obtain ⟨hb1, hb2⟩ := hashI_bd (ns.take k)
        have hst' := hashI_take (ns := ns) (k := k) (by rw [HN.out]; exact hlt)
        generalize ns.getD k 0 = x at *
        have hst := Lib.hid hst'
        clear hst'
        obtain ⟨⟨m1, m2⟩, ⟨m3, m4⟩, ⟨m5, m6⟩, m7, m8⟩ := hash_mid (x := x) ⟨hb1, hb2⟩
        go_wp2_with (first | (go_at_call 24; refine (impl_Clamp _ _ _ _).mono ?_; rintro e w' ⟨rfl, rfl⟩) | (go_at_call 23; refine (impl_floorMod _ _ _ (by omega) (by omega) (by omega) (by omega) (by omega) (by omega)).mono ?_; rintro e w' ⟨rfl, rfl⟩))
        go_round
        case rel => exact ⟨k + 1, by omega, by go_num, by rw [hst.out]; rfl⟩
        case measure => simp [intOf]; omega
      · have hk' : k = n := by omega
        have HK := Lib.hid hk'
        clear hk'
        go_wp2
        go_ret
        refine ⟨ret_int ?_, rfl⟩
        rw [HK.out, ← HN.out, List.take_length]
/-- The hash, from 0 to n - 1. -/
theorem impl_HashRange (v : Value) (ns : List Int) (n : Nat) (HN : Hid (ns.length = n)) (m : Int) (w : World) (hr : Row w v 1 n (ns.map (.int .i64))) (hn : n ≤ 1048576) :
    Calls Try.prog 21 #[v, .int .i64 m] w fun e w' => e = .returned (.int .i64 (hashR ns m)) ∧ w = w' := by
  obtain ⟨hb1, hb2⟩ := hashI_bd ns
  by_cases hm : m < 1
  · go_enter Try.func21, Try.ntmps21
    go_wp2
    go_ret
    exact ⟨ret_int (by simp [hashR, hm]), rfl⟩
  · have hm' : 1 ≤ m := by omega
    go_enter Try.func21, Try.ntmps21
    go_wp2_with (go_at_call 22; refine (impl_HashInts_core _ _ _ HN _ hr hn).mono ?_; rintro e w' ⟨rfl, rfl⟩)
    go_ret
    exact ⟨ret_int (by rw [hashR, if_neg (by omega)]), rfl⟩
end Go.Proofs.Ytdkjiafdfenbkaa
