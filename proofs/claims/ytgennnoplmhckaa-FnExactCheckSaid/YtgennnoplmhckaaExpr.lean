/- Contracts of exprOf, known and fitting. -/
import Derived.Test.YtgennnoplmhckaaNameMap
import Derived.Test.YtgennnoplmhckaaWords
namespace Go.Proofs.Ytgennnoplmhckaa
open Go Go.RowKit
@[reducible] def nodeV (x0 : Int) (x1 : ByteArray) (x2 : Int) (a : Option Addr) (n c : Nat) : Value := .agg #[.int .i64 x0, .string x1, .int .i64 x2, .slice a n c]
/-- The type as which a node lies in an expr. -/
def exprT (x0 : Int) : TypeId := if x0 = 2 then 108 else if x0 = 8 then 109 else 110
set_option maxRecDepth 100000 in
theorem exprOf_c (x0 : Int) (x1 : ByteArray) (x2 : Int) (a : Option Addr) (n c : Nat) (w : World) :
    Calls Try.prog 76 #[nodeV x0 x1 x2 a n c] w fun e w' => e = .returned (.iface (exprT x0) (nodeV x0 x1 x2 a n c)) ∧ Below w.heap.size w w' := by
  by_cases h2 : x0 = 2
  · subst h2
    go_enter Try.func76, Try.ntmps76
    go_wp2
    go_ret
    exact ⟨rfl, (by repeat (first | exact Below.refl _ _ | refine Below.drew ?_ | refine Below.alloc ?_ (by first | exact Nat.le_refl _ | (simp; done) | (simp; omega) | omega) _ | refine Below.more ?_ (by first | exact Nat.le_refl _ | (simp; done) | (simp; omega) | omega) _ _ | refine Below.setCell ?_ (by first | exact Nat.le_refl _ | (simp; done) | (simp; omega) | omega) _ | assumption))⟩
  by_cases h8 : x0 = 8
  · subst h8
    go_enter Try.func76, Try.ntmps76
    go_wp2
    go_ret
    exact ⟨rfl, (by repeat (first | exact Below.refl _ _ | refine Below.drew ?_ | refine Below.alloc ?_ (by first | exact Nat.le_refl _ | (simp; done) | (simp; omega) | omega) _ | refine Below.more ?_ (by first | exact Nat.le_refl _ | (simp; done) | (simp; omega) | omega) _ _ | refine Below.setCell ?_ (by first | exact Nat.le_refl _ | (simp; done) | (simp; omega) | omega) _ | assumption))⟩
  have q2 : (x0 == 2) = false := by simpa using h2
  have q8 : (x0 == 8) = false := by simpa using h8
  have HT := Lib.hid (show exprT x0 = 110 by simp [exprT, h2, h8])
  clear h2 h8
  go_enter Try.func76, Try.ntmps76
  go_wp2
  go_ret
  exact ⟨by rw [HT.out]; rfl, (by repeat (first | exact Below.refl _ _ | refine Below.drew ?_ | refine Below.alloc ?_ (by first | exact Nat.le_refl _ | (simp; done) | (simp; omega) | omega) _ | refine Below.more ?_ (by first | exact Nat.le_refl _ | (simp; done) | (simp; omega) | omega) _ _ | refine Below.setCell ?_ (by first | exact Nat.le_refl _ | (simp; done) | (simp; omega) | omega) _ | assumption))⟩
def emptyS : ByteArray := ⟨#[]⟩
@[reducible] def zeroN : Value := .agg #[.int .i64 0, .string emptyS, .int .i64 0, .slice none 0 0]
@[go_sem] theorem as_vv (v : Value) (w : World) : (Instr.typeAssert (.iface 108 v) 92 108 true).run Try.prog w = .ok (.tuple #[v, .bool true]) w := by kernel_rfl
@[go_sem] theorem as_cv (v : Value) (w : World) : (Instr.typeAssert (.iface 109 v) 92 108 true).run Try.prog w = .ok (.tuple #[zeroN, .bool false]) w := by kernel_rfl
@[go_sem] theorem as_pv (v : Value) (w : World) : (Instr.typeAssert (.iface 110 v) 92 108 true).run Try.prog w = .ok (.tuple #[zeroN, .bool false]) w := by kernel_rfl
@[go_sem] theorem as_vc (v : Value) (w : World) : (Instr.typeAssert (.iface 108 v) 92 109 true).run Try.prog w = .ok (.tuple #[zeroN, .bool false]) w := by kernel_rfl
@[go_sem] theorem as_cc (v : Value) (w : World) : (Instr.typeAssert (.iface 109 v) 92 109 true).run Try.prog w = .ok (.tuple #[v, .bool true]) w := by kernel_rfl
@[go_sem] theorem as_pc (v : Value) (w : World) : (Instr.typeAssert (.iface 110 v) 92 109 true).run Try.prog w = .ok (.tuple #[zeroN, .bool false]) w := by kernel_rfl
noncomputable def knownB (s : List AssignmentD) (m : Nat) (x0 : Int) (x1 : ByteArray) (own : Int) : Bool :=
  if x0 = 2 then isVar x1 || ((fx s x1 m).isSome && decide ((((fx s x1 m).getD 0 : Nat) : Int) < own)) else if x0 = 8 then decide (0 ≤ arityI x1) else true
set_option maxRecDepth 100000 in
set_option maxHeartbeats 1000000 in
theorem known_c (s : List AssignmentD) (m k b : Nat) (x0 : Int) (x1 : ByteArray) (x2 : Int) (a : Option Addr) (n c : Nat) (own : Int) (w : World) (hf : FirstMap s w b k m) (hx : x1.size ≤ maxLen) :
    Calls Try.prog 75 #[.iface (exprT x0) (nodeV x0 x1 x2 a n c), .int .i64 own, .map (some b)] w fun e w' => e = .returned (.bool (knownB s m x0 x1 own)) ∧ Below w.heap.size w w' := by
  have HF := Lib.hid hf
  clear hf
  by_cases h2 : x0 = 2
  · subst h2
    have HK := Lib.hid (show knownB s m 2 x1 own = (isVar x1 || ((fx s x1 m).isSome && decide ((((fx s x1 m).getD 0 : Nat) : Int) < own))) from rfl)
    have HL := Lib.hid (show ∀ (W : World) (hb : Below w.heap.size w W) {ops : Array Oper} {rest : List Oper} {o : Oper} {a : Act} {Q : Exit → Act → World → Prop} (hg : o.guard = none) (mm y : Operand) (hop : o.op = Op.lookup 88 mm y true) (hm : a.eval mm = .map (some b)) (hy : a.eval y = .string x1)
      (hK : wpList Try.prog ops Q rest (a.put o.dst (.tuple #[.int .i64 (((fx s x1 m).getD 0 : Nat) : Int), .bool (fx s x1 m).isSome])) W), wpList Try.prog ops Q (o :: rest) a W from fun W hb => fun hg mm y hop hm hy hK => wpList_look_name W hg mm y hop s b k m hm (HF.out.kept hb) x1 hx hy hK)
    rw [show exprT 2 = 108 from rfl]
    generalize knownB s m 2 x1 own = r at *
    generalize (fx s x1 m).isSome = hs at *
    generalize (((fx s x1 m).getD 0 : Nat) : Int) = g at *
    cases hv : isVar x1
    all_goals cases hs
    all_goals by_cases hlt : g < own
    all_goals
      have HV := Lib.hid hv
      clear hv
      go_enter Try.func75, Try.ntmps75
      go_wp2_with (first | (at_lookup; refine HL.out _ (by repeat (first | exact Below.refl _ _ | refine Below.drew ?_ | refine Below.alloc ?_ (by first | exact Nat.le_refl _ | (simp; done) | (simp; omega) | omega) _ | refine Below.more ?_ (by first | exact Nat.le_refl _ | (simp; done) | (simp; omega) | omega) _ _ | refine Below.setCell ?_ (by first | exact Nat.le_refl _ | (simp; done) | (simp; omega) | omega) _ | assumption)) rfl _ _ rfl rfl rfl ?_) | (go_at_call 78; refine (impl_IsVariable _ _).mono ?_; rw [HV.out]; rintro e w' ⟨rfl, rfl⟩))
      go_ret
      exact ⟨ret_bool (by rw [HK.out, HV.out]; simp [hlt]), (by repeat (first | exact Below.refl _ _ | refine Below.drew ?_ | refine Below.alloc ?_ (by first | exact Nat.le_refl _ | (simp; done) | (simp; omega) | omega) _ | refine Below.more ?_ (by first | exact Nat.le_refl _ | (simp; done) | (simp; omega) | omega) _ _ | refine Below.setCell ?_ (by first | exact Nat.le_refl _ | (simp; done) | (simp; omega) | omega) _ | assumption))⟩
  by_cases h8 : x0 = 8
  · subst h8
    have HK := Lib.hid (show knownB s m 8 x1 own = decide (0 ≤ arityI x1) from rfl)
    rw [show exprT 8 = 109 from rfl]
    generalize knownB s m 8 x1 own = r at *
    go_enter Try.func75, Try.ntmps75
    go_wp2_with (go_at_call 89; refine (impl_Arity _ _).mono ?_; rintro e w' ⟨rfl, rfl⟩)
    go_ret
    exact ⟨ret_bool (by rw [HK.out]), (by repeat (first | exact Below.refl _ _ | refine Below.drew ?_ | refine Below.alloc ?_ (by first | exact Nat.le_refl _ | (simp; done) | (simp; omega) | omega) _ | refine Below.more ?_ (by first | exact Nat.le_refl _ | (simp; done) | (simp; omega) | omega) _ _ | refine Below.setCell ?_ (by first | exact Nat.le_refl _ | (simp; done) | (simp; omega) | omega) _ | assumption))⟩
  have HT := Lib.hid (show exprT x0 = 110 by simp [exprT, h2, h8])
  have HK := Lib.hid (show knownB s m x0 x1 own = true by simp [knownB, h2, h8])
  clear h2 h8
  rw [HT.out]
  go_enter Try.func75, Try.ntmps75
  go_wp2
  go_ret
  exact ⟨ret_bool HK.out.symm, (by repeat (first | exact Below.refl _ _ | refine Below.drew ?_ | refine Below.alloc ?_ (by first | exact Nat.le_refl _ | (simp; done) | (simp; omega) | omega) _ | refine Below.more ?_ (by first | exact Nat.le_refl _ | (simp; done) | (simp; omega) | omega) _ _ | refine Below.setCell ?_ (by first | exact Nat.le_refl _ | (simp; done) | (simp; omega) | omega) _ | assumption))⟩
def fitB (x0 : Int) (x1 : ByteArray) (n : Nat) : Bool := if x0 = 8 then ((n : Int) == arityI x1) else true
set_option maxRecDepth 100000 in
set_option maxHeartbeats 8000000 in
theorem fitting_c (x0 : Int) (x1 : ByteArray) (x2 : Int) (a : Option Addr) (n c : Nat) (w : World) :
    Calls Try.prog 77 #[.iface (exprT x0) (nodeV x0 x1 x2 a n c)] w fun e w' => e = .returned (.bool (fitB x0 x1 n)) ∧ Below w.heap.size w w' := by
  by_cases h8 : x0 = 8
  · subst h8
    have HK := Lib.hid (show fitB 8 x1 n = ((n : Int) == arityI x1) from rfl)
    rw [show exprT 8 = 109 from rfl]
    generalize fitB 8 x1 n = r at *
    go_enter Try.func77, Try.ntmps77
    go_wp2
    (first | refine region_q2 (by kernel_rfl) (by kernel_rfl) ?_ | refine region_q (by kernel_rfl) (by kernel_rfl) ?_)
    repeat (quiet_step (fail))
    (refine wpQuiet_step (fun K hK => ?_); go_simp; refine ⟨_, fun zt => ext_same (impl_Arity _ _), hK _ ?_⟩; clear hK K)
    repeat (quiet_step (fail))
    (refine wpQuiet_nil ?_; intro X nX)
    go_wp2
    go_ret
    exact ⟨ret_bool (by rw [HK.out]), (by repeat (first | exact Below.refl _ _ | refine Below.drew ?_ | refine Below.alloc ?_ (by first | exact Nat.le_refl _ | (simp; done) | (simp; omega) | omega) _ | refine Below.more ?_ (by first | exact Nat.le_refl _ | (simp; done) | (simp; omega) | omega) _ _ | refine Below.setCell ?_ (by first | exact Nat.le_refl _ | (simp; done) | (simp; omega) | omega) _ | assumption))⟩
  have HK := Lib.hid (show fitB x0 x1 n = true by simp [fitB, h8])
  by_cases h2 : x0 = 2
  · subst h2
    clear h8
    rw [show exprT 2 = 108 from rfl]
    go_enter Try.func77, Try.ntmps77
    go_wp2
    go_region
    all_goals go_wp2
    go_ret
    exact ⟨ret_bool HK.out.symm, (by repeat (first | exact Below.refl _ _ | refine Below.drew ?_ | refine Below.alloc ?_ (by first | exact Nat.le_refl _ | (simp; done) | (simp; omega) | omega) _ | refine Below.more ?_ (by first | exact Nat.le_refl _ | (simp; done) | (simp; omega) | omega) _ _ | refine Below.setCell ?_ (by first | exact Nat.le_refl _ | (simp; done) | (simp; omega) | omega) _ | assumption))⟩
  have HT := Lib.hid (show exprT x0 = 110 by simp [exprT, h2, h8])
  clear h2 h8
  rw [HT.out]
  go_enter Try.func77, Try.ntmps77
  go_wp2
  go_region
  all_goals go_wp2
  go_ret
  exact ⟨ret_bool HK.out.symm, (by repeat (first | exact Below.refl _ _ | refine Below.drew ?_ | refine Below.alloc ?_ (by first | exact Nat.le_refl _ | (simp; done) | (simp; omega) | omega) _ | refine Below.more ?_ (by first | exact Nat.le_refl _ | (simp; done) | (simp; omega) | omega) _ _ | refine Below.setCell ?_ (by first | exact Nat.le_refl _ | (simp; done) | (simp; omega) | omega) _ | assumption))⟩
end Go.Proofs.Ytgennnoplmhckaa
