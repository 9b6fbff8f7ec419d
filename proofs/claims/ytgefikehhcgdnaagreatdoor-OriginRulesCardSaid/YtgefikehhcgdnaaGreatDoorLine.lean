import Derived.Test.YtgefikehhcgdnaaGreatDoorLb
import Derived.Lib.ItoaLen

/- Packages line and field: contracts. No condition. -/
namespace Go.SL
open Go.Proofs
set_option maxRecDepth 10000

def isTargetB (l : List UInt8) : Bool := decide (l ≠ []) && l.all (fun c => decide (32 < c.toNat ∧ c.toNat ≤ 126))
def reasonB (l : List UInt8) : Bool := l.all (fun c => decide (¬ (c.toNat < 32 ∧ c.toNat ≠ 9) ∧ c.toNat ≠ 127))
def isMinorI (n : Int) : Bool := decide (n = 0 ∨ n = 1)
def httpL : List UInt8 := [72, 84, 84, 80, 47, 49, 46]
def fitsS (s : List UInt8) : List UInt8 × Int := if 1024 < s.length then ([], 3) else (s, 0)
def statusLineL (minor code : Int) (r : List UInt8) : List UInt8 := httpL ++ Lib.itoa minor ++ [32] ++ Lib.itoa code ++ [32] ++ r
def statusS (minor code : Int) (r : List UInt8) : List UInt8 × Int := if isMinorI minor = true ∧ 100 ≤ code ∧ code ≤ 599 ∧ reasonB r = true then fitsS (statusLineL minor code r) else ([], 2)
abbrev tup2 (p : List UInt8 × Int) : Value := .tuple #[str p.1, int p.2]
theorem tup2_eq {p : List UInt8 × Int} {a : List UInt8} {b : Int} (h : p = (a, b)) : Value.tuple #[str a, int b] = tup2 p := by rw [h]

/-- A header field. -/
structure Fld where
  n : List UInt8
  v : List UInt8
deriving DecidableEq
abbrev encF (f : Fld) : List Value := [str f.n, str f.v]
theorem encF_len (f : Fld) : (encF f).length = 2 := rfl
abbrev encS (s : List UInt8) : List Value := [str s]
theorem encS_len (s : List UInt8) : (encS s).length = 1 := rfl
def fineB (f : Fld) : Bool := tokenB f.n && valueB f.v
def lineS (f : Fld) : List UInt8 × Int := if fineB f = true then (f.n ++ [58, 32] ++ f.v, 0) else ([], 31)
def FOk (f : Fld) : Prop := f.n.length ≤ 1000000000 ∧ f.v.length ≤ 1000000000
def valsOf (l : List Fld) (name : List UInt8) : List (List UInt8) := (l.filter fun f => sameB f.n name).map (·.v)
def sumV (l : List Fld) : Nat := (l.map fun f => f.v.length + 2).sum

theorem itoa_len {n : Int} (h : -9223372036854775808 ≤ n ∧ n ≤ 9223372036854775807) : (Lib.itoa n).length ≤ 21 := Lib.itoa_length_le n h.1 h.2

theorem c_isTarget (l : List UInt8) (hl : l.length ≤ 4000000000) (F : FH) : FnV Tryz.prog 94 [str l] F (.bool (isTargetB l)) := by
  refine fn_walk Tryz.func94 (by kernel_rfl) rfl rfl rfl ?_
  intro w0
  simp only [numb, List.map_nil, List.map_cons, Nat.zero_add, Nat.reduceAdd, List.cons_append, List.nil_append]
  refine w_seq ?_
  refine w_region ?_
  refine o_run rfl (e_val rfl (y_p rfl) ?_)
  refine w_nil ?_
  refine q_then ?_
  refine w_seq ?_
  refine w_seq ?_
  refine w_region ?_
  refine o_run rfl (e_val rfl (y_p rfl) ?_)
  refine o_run rfl (e_val rfl (y_lenS ty9 rfl) ?_)
  refine o_run rfl (e_val rfl (y_p rfl) ?_)
  refine w_nil ?_
  refine q_then ?_
  refine w_block ?_
  refine w_loop (T := Nat) (fun k => ([(0, str l), (5, int l.length), (6, int k)], F, [])) (fun k => k ≤ l.length ∧ ∀ j (h : j < l.length), j < k → decide (32 < l[j].toNat ∧ l[j].toNat ≤ 126) = true) (fun k => l.length - k) 0 (by simp) (by repeat (first | exact trivial | refine ⟨rfl, ?_⟩)) rfl rfl ?_
  rintro k ⟨hk, hj⟩
  dsimp only
  refine w_seq ?_
  refine w_region ?_
  refine o_run rfl (e_val rfl (y_p rfl) ?_)
  refine w_nil ?_
  refine q_then ?_
  refine w_seq ?_
  first | refine w_condD rfl (fun h1 => ?_) (fun h1 => ?_) | refine w_condN rfl (fun h1 => ?_) (fun h1 => ?_) | refine w_cond rfl (fun h1 => ?_) (fun h1 => ?_)
  · refine w_skip ?_
    refine q_then ?_
    refine w_seq ?_
    refine w_block ?_
    refine w_seq ?_
    refine w_region ?_
    refine o_run rfl (e_val rfl (y_p rfl) ?_)
    refine o_run rfl (e_val rfl (y_p rfl) ?_)
    refine w_nil ?_
    refine q_then ?_
    refine w_seq ?_
    refine w_region ?_
    refine o_run rfl (e_val rfl (y_p rfl) ?_)
    refine o_run rfl (e_val rfl (y_p rfl) ?_)
    refine o_run rfl (e_val rfl (y_ixS ty9 rfl rfl (by omega)) ?_)
    refine o_run rfl (e_val rfl (y_p rfl) ?_)
    refine o_run rfl (e_val rfl (y_p rfl) ?_)
    first | refine PW.wayD (t := 13) rfl rfl (fun h2 => ?_) (fun h2 => ?_) | refine PW.way (t := 13) rfl rfl (fun h2 => ?_) (fun h2 => ?_)
    · refine g_no rfl rfl rfl rfl ?_
      refine g_no rfl rfl rfl rfl ?_
      refine g_no rfl rfl rfl rfl ?_
      refine g_no rfl rfl rfl rfl ?_
      refine o_run rfl (e_val rfl (y_p rfl) ?_)
      refine w_nil ?_
      refine q_then ?_
      refine w_condT rfl ?_
      refine w_seq ?_
      refine w_region ?_
      refine o_run rfl (e_val rfl (y_p rfl) ?_)
      refine w_nil ?_
      refine q_then ?_
      refine w_ret ?_
      refine q_inR ?_
      refine q_thenR ?_
      refine q_thenR ?_
      refine q_inR ?_
      refine q_thenR ?_
      refine r_one rfl rfl ?_
      -- leaf 1
      have hk' : k < l.length := by omega
      rw [Int.toNat_natCast, bt_get hk'] at h2
      simp only [isTargetB]; rw [all_not hk' (decide_eq_false (by omega)), Bool.and_false]
    · refine o_yes rfl rfl rfl (e_val rfl (y_p rfl) ?_)
      refine o_yes rfl rfl rfl (e_val rfl (y_p rfl) ?_)
      refine o_yes rfl rfl rfl (e_val rfl (y_ixS ty9 rfl rfl (by omega)) ?_)
      refine o_yes rfl rfl rfl (e_val rfl (y_p rfl) ?_)
      refine o_run rfl (e_val rfl (y_p rfl) ?_)
      refine w_nil ?_
      refine q_then ?_
      first | refine w_condD rfl (fun h3 => ?_) (fun h3 => ?_) | refine w_condN rfl (fun h3 => ?_) (fun h3 => ?_) | refine w_cond rfl (fun h3 => ?_) (fun h3 => ?_)
      · refine w_seq ?_
        refine w_region ?_
        refine o_run rfl (e_val rfl (y_p rfl) ?_)
        refine w_nil ?_
        refine q_then ?_
        refine w_ret ?_
        refine q_inR ?_
        refine q_thenR ?_
        refine q_thenR ?_
        refine q_inR ?_
        refine q_thenR ?_
        refine r_one rfl rfl ?_
        -- leaf 2
        have hk' : k < l.length := by omega
        rw [Int.toNat_natCast, bt_get hk'] at h2 h3
        simp only [isTargetB]; rw [all_not hk' (decide_eq_false (by omega)), Bool.and_false]
      · refine w_skip ?_
        refine q_in ?_
        refine q_then ?_
        refine w_region ?_
        refine o_run rfl (e_val rfl (y_addI rfl rfl (by omega)) ?_)
        refine o_run rfl (e_val rfl (y_p rfl) ?_)
        refine w_nil ?_
        refine q_round (k+1) ⟨by omega, fun j h hj' => ?_⟩ (by omega) ⟨rfl, rfl, rfl, trivial⟩ rfl rfl
        by_cases hjk : j = k
        · subst hjk; rw [Int.toNat_natCast, bt_get h] at h2 h3; exact decide_eq_true (by omega)
        · exact hj j h (by omega)
  · refine w_exit ?_
    refine q_thenE ?_
    refine q_thenE ?_
    refine q_inE ?_
    refine q_then ?_
    refine w_seq ?_
    refine w_region ?_
    refine o_run rfl (e_val rfl (y_p rfl) ?_)
    refine o_run rfl (e_val rfl (y_p rfl) ?_)
    refine o_run rfl (e_val rfl (y_p rfl) ?_)
    refine w_nil ?_
    refine q_then ?_
    refine w_ret ?_
    refine r_one rfl rfl ?_
    -- leaf 3
    simp only [isTargetB]; rw [all_take (k := k) (by omega) hj, Bool.and_true]

theorem c_isReason (l : List UInt8) (hl : l.length ≤ 4000000000) (F : FH) : FnV Tryz.prog 120 [str l] F (.bool (reasonB l)) := by
  refine fn_walk Tryz.func120 (by kernel_rfl) rfl rfl rfl ?_
  intro w0
  simp only [numb, List.map_nil, List.map_cons, Nat.zero_add, Nat.reduceAdd, List.cons_append, List.nil_append]
  refine w_seq ?_
  refine w_region ?_
  refine o_run rfl (e_val rfl (y_p rfl) ?_)
  refine w_nil ?_
  refine q_then ?_
  refine w_seq ?_
  refine w_seq ?_
  refine w_region ?_
  refine o_run rfl (e_val rfl (y_p rfl) ?_)
  refine o_run rfl (e_val rfl (y_lenS ty9 rfl) ?_)
  refine o_run rfl (e_val rfl (y_p rfl) ?_)
  refine w_nil ?_
  refine q_then ?_
  refine w_block ?_
  refine w_loop (T := Nat) (fun k => ([(0, str l), (6, int l.length), (7, int k)], F, [])) (fun k => k ≤ l.length ∧ ∀ j (h : j < l.length), j < k → decide (¬ (l[j].toNat < 32 ∧ l[j].toNat ≠ 9) ∧ l[j].toNat ≠ 127) = true) (fun k => l.length - k) 0 (by simp) (by repeat (first | exact trivial | refine ⟨rfl, ?_⟩)) rfl rfl ?_
  rintro k ⟨hk, hj⟩
  dsimp only
  refine w_seq ?_
  refine w_region ?_
  refine o_run rfl (e_val rfl (y_p rfl) ?_)
  refine w_nil ?_
  refine q_then ?_
  refine w_seq ?_
  first | refine w_condD rfl (fun h1 => ?_) (fun h1 => ?_) | refine w_condN rfl (fun h1 => ?_) (fun h1 => ?_) | refine w_cond rfl (fun h1 => ?_) (fun h1 => ?_)
  · refine w_skip ?_
    refine q_then ?_
    refine w_seq ?_
    refine w_block ?_
    refine w_seq ?_
    refine w_region ?_
    refine o_run rfl (e_val rfl (y_p rfl) ?_)
    refine o_run rfl (e_val rfl (y_p rfl) ?_)
    refine w_nil ?_
    refine q_then ?_
    refine w_seq ?_
    refine w_region ?_
    refine o_run rfl (e_val rfl (y_p rfl) ?_)
    refine o_run rfl (e_val rfl (y_p rfl) ?_)
    refine o_run rfl (e_val rfl (y_ixS ty9 rfl rfl (by omega)) ?_)
    refine o_run rfl (e_val rfl (y_p rfl) ?_)
    refine w_nil ?_
    refine q_then ?_
    refine w_seq ?_
    refine w_join (T := Unit) (fun _ => ([(0, str l), (6, int l.length), (7, int k), (22, .bool (decide (bt l k < 32 ∧ bt l k ≠ 9 ∨ bt l k = 127)))], F, [])) (fun _ => True) ?_ ?_
    · refine w_region ?_
      refine o_run rfl (e_val rfl (y_p rfl) ?_)
      refine o_run rfl (e_val rfl (y_p rfl) ?_)
      refine o_run rfl (e_val rfl (y_p rfl) ?_)
      first | refine PW.wayD (t := 15) rfl rfl (fun h2 => ?_) (fun h2 => ?_) | refine PW.way (t := 15) rfl rfl (fun h2 => ?_) (fun h2 => ?_)
      · refine o_yes rfl rfl rfl (e_val rfl (y_p rfl) ?_)
        refine o_yes rfl rfl rfl (e_val rfl (y_p rfl) ?_)
        refine o_run rfl (e_val rfl (y_p rfl) ?_)
        refine o_run rfl (e_val rfl (y_p rfl) ?_)
        first | refine PW.wayD (t := 19) rfl rfl (fun h3 => ?_) (fun h3 => ?_) | refine PW.way (t := 19) rfl rfl (fun h3 => ?_) (fun h3 => ?_)
        · refine g_no rfl rfl rfl rfl ?_
          refine g_no rfl rfl rfl rfl ?_
          refine o_run rfl (e_val rfl (y_p rfl) ?_)
          refine w_nil ?_
          rw [Int.toNat_natCast] at *
          refine q_join () trivial (by repeat (first | exact trivial | refine ⟨by (first | rfl | exact congrArg (fun b => some (Value.bool b)) (decide_eq_true (by omega)).symm | exact congrArg (fun b => some (Value.bool b)) (decide_eq_false (by omega)).symm | exact congrArg (fun b => some (Value.bool b)) (decide_eq_decide.2 (by omega))), ?_⟩)) rfl rfl
        · refine o_yes rfl rfl rfl (e_val rfl (y_p rfl) ?_)
          refine o_yes rfl rfl rfl (e_val rfl (y_p rfl) ?_)
          refine o_run rfl (e_val rfl (y_p rfl) ?_)
          refine w_nil ?_
          rw [Int.toNat_natCast] at *
          refine q_join () trivial (by repeat (first | exact trivial | refine ⟨by (first | rfl | exact congrArg (fun b => some (Value.bool b)) (decide_eq_true (by omega)).symm | exact congrArg (fun b => some (Value.bool b)) (decide_eq_false (by omega)).symm | exact congrArg (fun b => some (Value.bool b)) (decide_eq_decide.2 (by omega))), ?_⟩)) rfl rfl
      · refine g_no rfl rfl rfl rfl ?_
        refine g_no rfl rfl rfl rfl ?_
        refine o_run rfl (e_val rfl (y_p rfl) ?_)
        refine o_run rfl (e_val rfl (y_p rfl) ?_)
        refine o_yes rfl rfl rfl (e_val rfl (y_p rfl) ?_)
        refine o_yes rfl rfl rfl (e_val rfl (y_p rfl) ?_)
        refine o_run rfl (e_val rfl (y_p rfl) ?_)
        refine w_nil ?_
        rw [Int.toNat_natCast] at *
        refine q_join () trivial (by repeat (first | exact trivial | refine ⟨by (first | rfl | exact congrArg (fun b => some (Value.bool b)) (decide_eq_true (by omega)).symm | exact congrArg (fun b => some (Value.bool b)) (decide_eq_false (by omega)).symm | exact congrArg (fun b => some (Value.bool b)) (decide_eq_decide.2 (by omega))), ?_⟩)) rfl rfl
    · rintro _ _
      dsimp only
      refine q_then ?_
      first | refine w_condD rfl (fun h2 => ?_) (fun h2 => ?_) | refine w_condN rfl (fun h2 => ?_) (fun h2 => ?_) | refine w_cond rfl (fun h2 => ?_) (fun h2 => ?_)
      · refine w_seq ?_
        refine w_region ?_
        refine o_run rfl (e_val rfl (y_p rfl) ?_)
        refine w_nil ?_
        refine q_then ?_
        refine w_ret ?_
        refine q_inR ?_
        refine q_thenR ?_
        refine q_thenR ?_
        refine q_inR ?_
        refine q_thenR ?_
        refine r_one rfl rfl ?_
        -- leaf 1
        have hk' : k < l.length := by omega
        rw [bt_get hk'] at h2
        exact congrArg Value.bool (all_not hk' (decide_eq_false (by omega))).symm
      · refine w_skip ?_
        refine q_in ?_
        refine q_then ?_
        refine w_region ?_
        refine o_run rfl (e_val rfl (y_addI rfl rfl (by omega)) ?_)
        refine o_run rfl (e_val rfl (y_p rfl) ?_)
        refine w_nil ?_
        refine q_round (k+1) ⟨by omega, fun j h hj' => ?_⟩ (by omega) ⟨rfl, rfl, rfl, trivial⟩ rfl rfl
        by_cases hjk : j = k
        · subst hjk; rw [bt_get h] at h2; exact decide_eq_true (by omega)
        · exact hj j h (by omega)
  · refine w_exit ?_
    refine q_thenE ?_
    refine q_thenE ?_
    refine q_inE ?_
    refine q_then ?_
    refine w_seq ?_
    refine w_region ?_
    refine o_run rfl (e_val rfl (y_p rfl) ?_)
    refine w_nil ?_
    refine q_then ?_
    refine w_ret ?_
    refine r_one rfl rfl ?_
    -- leaf 2
    exact congrArg Value.bool (all_take (k := k) (by omega) hj).symm

theorem c_isMinor (n : Int) (F : FH) : FnV Tryz.prog 119 [int n] F (.bool (isMinorI n)) := by
  refine fn_walk Tryz.func119 (by kernel_rfl) rfl rfl rfl ?_
  intro w0
  simp only [numb, List.map_nil, List.map_cons, Nat.zero_add, Nat.reduceAdd, List.cons_append, List.nil_append]
  refine w_seq ?_
  refine w_region ?_
  refine o_run rfl (e_val rfl (y_p rfl) ?_)
  refine w_nil ?_
  refine q_then ?_
  refine w_seq ?_
  refine w_region ?_
  refine o_run rfl (e_val rfl (y_p rfl) ?_)
  refine o_run rfl (e_val rfl (y_p rfl) ?_)
  refine o_run rfl (e_val rfl (y_p rfl) ?_)
  first | refine PW.wayD (t := 5) rfl rfl (fun h1 => ?_) (fun h1 => ?_) | refine PW.way (t := 5) rfl rfl (fun h1 => ?_) (fun h1 => ?_)
  · refine g_no rfl rfl rfl rfl ?_
    refine g_no rfl rfl rfl rfl ?_
    refine o_run rfl (e_val rfl (y_p rfl) ?_)
    refine o_run rfl (e_val rfl (y_p rfl) ?_)
    refine w_nil ?_
    refine q_then ?_
    refine w_ret ?_
    refine r_one rfl rfl ?_
    -- leaf 1
    first | exact congrArg Value.bool (decide_eq_true (by omega)).symm | exact congrArg Value.bool (decide_eq_false (by omega)).symm | exact congrArg Value.bool (decide_eq_decide.2 (by omega))
  · refine o_yes rfl rfl rfl (e_val rfl (y_p rfl) ?_)
    refine o_yes rfl rfl rfl (e_val rfl (y_p rfl) ?_)
    refine o_run rfl (e_val rfl (y_p rfl) ?_)
    refine o_run rfl (e_val rfl (y_p rfl) ?_)
    refine w_nil ?_
    refine q_then ?_
    refine w_ret ?_
    refine r_one rfl rfl ?_
    -- leaf 2
    first | exact congrArg Value.bool (decide_eq_true (by omega)).symm | exact congrArg Value.bool (decide_eq_false (by omega)).symm | exact congrArg Value.bool (decide_eq_decide.2 (by omega))

theorem c_fits (l : List UInt8) (F : FH) : FnV Tryz.prog 121 [str l] F (tup2 (fitsS l)) := by
  refine fn_walk Tryz.func121 (by kernel_rfl) rfl rfl rfl ?_
  intro w0
  simp only [numb, List.map_nil, List.map_cons, Nat.zero_add, Nat.reduceAdd, List.cons_append, List.nil_append]
  refine w_seq ?_
  refine w_region ?_
  refine o_run rfl (e_val rfl (y_p rfl) ?_)
  refine o_run rfl (e_val rfl (y_p rfl) ?_)
  refine w_nil ?_
  refine q_then ?_
  refine w_seq ?_
  refine w_seq ?_
  refine w_region ?_
  refine o_run rfl (e_val rfl (y_p rfl) ?_)
  refine o_run rfl (e_val rfl (y_lenS ty9 rfl) ?_)
  refine o_run rfl (e_val rfl (y_p rfl) ?_)
  refine w_nil ?_
  refine q_then ?_
  first | refine w_condD rfl (fun h1 => ?_) (fun h1 => ?_) | refine w_condN rfl (fun h1 => ?_) (fun h1 => ?_) | refine w_cond rfl (fun h1 => ?_) (fun h1 => ?_)
  · refine w_seq ?_
    refine w_region ?_
    refine o_run rfl (e_val rfl (y_p rfl) ?_)
    refine o_run rfl (e_val rfl (y_p rfl) ?_)
    refine w_nil ?_
    refine q_then ?_
    refine w_ret ?_
    refine q_thenR ?_
    refine r_many (rs := [.tmp 2, .tmp 3]) rfl rfl ?_
    -- leaf 1
    exact tup2_eq (by simp only [fitsS]; rw [if_pos (by omega)])
  · refine w_skip ?_
    refine q_then ?_
    refine w_seq ?_
    refine w_region ?_
    refine o_run rfl (e_val rfl (y_p rfl) ?_)
    refine o_run rfl (e_val rfl (y_p rfl) ?_)
    refine o_run rfl (e_val rfl (y_p rfl) ?_)
    refine w_nil ?_
    refine q_then ?_
    refine w_ret ?_
    refine r_many (rs := [.tmp 2, .tmp 3]) rfl rfl ?_
    -- leaf 2
    exact tup2_eq (by simp only [fitsS]; rw [if_neg (by omega)])

end Go.SL
