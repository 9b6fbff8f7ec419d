import Derived.Test.YtgefikehhcgdnaaGreatDoorTy

/- Package token: the contracts of its functions. No condition. -/
namespace Go.SL
open Go.Proofs
set_option maxRecDepth 10000

def isBlankB (c : UInt8) : Bool := decide (c.toNat = 32 ∨ c.toNat = 9)
def inQuotesB (c : UInt8) : Bool := decide (c.toNat = 9 ∨ 32 ≤ c.toNat ∧ c.toNat ≠ 127)
def inValueB (c : UInt8) : Bool := decide (c.toNat = 32 ∨ c.toNat = 9 ∨ 32 < c.toNat ∧ c.toNat ≠ 127)
def marksL : List UInt8 := [33, 35, 36, 37, 38, 39, 42, 43, 45, 46, 94, 95, 96, 124, 126]
def isDigitB (c : UInt8) : Bool := decide (48 ≤ c.toNat ∧ c.toNat ≤ 57)
def inTokenB (c : UInt8) : Bool := decide (97 ≤ (c ||| 32).toNat ∧ (c ||| 32).toNat ≤ 122 ∨ 48 ≤ c.toNat ∧ c.toNat ≤ 57 ∨ c ∈ marksL)
/-- What a Bool's Value may be of a text. -/
def Lx (l : List UInt8) : Prop := l.length ≤ 1000000000
def lowC (c : UInt8) : UInt8 := if 65 ≤ c.toNat ∧ c.toNat ≤ 90 then c ||| 32 else c
def lowL (l : List UInt8) : List UInt8 := l.map lowC
def trimL (l : List UInt8) : List UInt8 := ((l.reverse.dropWhile (isBlankB ·)).reverse).dropWhile (isBlankB ·)
def tokenB (l : List UInt8) : Bool := decide (l ≠ []) && l.all inTokenB
def valueB (l : List UInt8) : Bool := decide (trimL l = l) && l.all inValueB
def sameB (a b : List UInt8) : Bool := decide (a.length = b.length) && decide (lowL a = lowL b)

theorem u8_or (c : UInt8) (k : UInt8) : ibits .or .u8 (c.toNat : Int) (k.toNat : Int) = ((c ||| k).toNat : Int) := by
  have h1 : BitVec.ofInt 8 (c.toNat : Int) = c.toBitVec := by
    apply BitVec.eq_of_toNat_eq; simp [BitVec.toNat_ofInt]
  have h2 : BitVec.ofInt 8 (k.toNat : Int) = k.toBitVec := by
    apply BitVec.eq_of_toNat_eq; simp [BitVec.toNat_ofInt]
  have h3 : ibits .or .u8 (c.toNat : Int) (k.toNat : Int) = IntKind.u8.wrap (BitVec.ofInt 8 (c.toNat : Int) ||| BitVec.ofInt 8 (k.toNat : Int)).toNat := rfl
  rw [h3, h1, h2]
  have h4 : (c.toBitVec ||| k.toBitVec).toNat = (c ||| k).toNat := rfl
  rw [h4]
  have := (c ||| k).toNat_lt
  generalize (c ||| k).toNat = m at *
  unfold IntKind.wrap
  simp only [IntKind.bits, IntKind.signed, Bool.false_and, Bool.false_eq_true, if_false]
  omega

theorem bt_get {l : List UInt8} {k : Nat} (h : k < l.length) : bt l k = (l[k].toNat : Int) := by simp [bt, h]

def marksV : List Value := bytesV marksL
theorem marksV_len : marksV.length = 15 := rfl
theorem marks_nth {k : Nat} (h : k < 15) : ldv false 1 marksV (k * 1) = some (byte ((marksL.getD k 0).toNat : Int)) := by
  simp only [ldv, nth_eq, Nat.mul_one]
  have : k < marksL.length := h
  simp [marksV, this]
theorem all_take {p : UInt8 → Bool} {l : List UInt8} {k : Nat} (h : k = l.length) (hj : ∀ j (h : j < l.length), j < k → p l[j] = true) : l.all p = true := by
  rw [List.all_eq_true]
  intro x hx
  obtain ⟨j, hj', rfl⟩ := List.getElem_of_mem hx
  exact hj j hj' (by omega)
theorem all_not {p : UInt8 → Bool} {l : List UInt8} {k : Nat} (h : k < l.length) (hj : p l[k] = false) : l.all p = false := by
  rw [List.all_eq_false]
  exact ⟨l[k], List.getElem_mem h, by simp [hj]⟩

theorem c_isBlank (c : UInt8) (F : FH) : FnV Tryz.prog 257 [byte (c.toNat : Int)] F (.bool (isBlankB c)) := by
  refine fn_walk Tryz.func257 (by kernel_rfl) rfl rfl rfl ?_
  intro w0
  simp only [numb, List.map_nil, List.map_cons, Nat.zero_add, Nat.reduceAdd, List.cons_append, List.nil_append]
  refine w_seq ?_
  refine w_region ?_
  refine o_run rfl (e_val rfl (y_p rfl) ?_)
  refine w_nil ?_
  refine q_then ?_
  refine w_seq ?_
  refine w_region ?_
  refine o_run rfl (e_val rfl (y_p rfl) ?_)
  refine o_run rfl (e_val rfl (y_p rfl) ?_)
  refine o_run rfl (e_val rfl (y_p rfl) ?_)
  first | refine PW.wayD (t := 5) rfl rfl (fun h1 => ?_) (fun h1 => ?_) | refine PW.way (t := 5) rfl rfl (fun h1 => ?_) (fun h1 => ?_)
  · refine g_no rfl rfl rfl rfl ?_
    refine g_no rfl rfl rfl rfl ?_
    refine o_run rfl (e_val rfl (y_p rfl) ?_)
    refine o_run rfl (e_val rfl (y_p rfl) ?_)
    refine w_nil ?_
    refine q_then ?_
    refine w_ret ?_
    refine r_one rfl rfl ?_
    -- leaf 1
    first | exact congrArg Value.bool (decide_eq_true (by omega)).symm | exact congrArg Value.bool (decide_eq_false (by omega)).symm | exact congrArg Value.bool (decide_eq_decide.2 (by omega))
  · refine o_yes rfl rfl rfl (e_val rfl (y_p rfl) ?_)
    refine o_yes rfl rfl rfl (e_val rfl (y_p rfl) ?_)
    refine o_run rfl (e_val rfl (y_p rfl) ?_)
    refine o_run rfl (e_val rfl (y_p rfl) ?_)
    refine w_nil ?_
    refine q_then ?_
    refine w_ret ?_
    refine r_one rfl rfl ?_
    -- leaf 2
    first | exact congrArg Value.bool (decide_eq_true (by omega)).symm | exact congrArg Value.bool (decide_eq_false (by omega)).symm | exact congrArg Value.bool (decide_eq_decide.2 (by omega))

theorem c_inQuotes (c : UInt8) (F : FH) : FnV Tryz.prog 243 [byte (c.toNat : Int)] F (.bool (inQuotesB c)) := by
  refine fn_walk Tryz.func243 (by kernel_rfl) rfl rfl rfl ?_
  intro w0
  simp only [numb, List.map_nil, List.map_cons, Nat.zero_add, Nat.reduceAdd, List.cons_append, List.nil_append]
  refine w_seq ?_
  refine w_region ?_
  refine o_run rfl (e_val rfl (y_p rfl) ?_)
  refine w_nil ?_
  refine q_then ?_
  refine w_seq ?_
  refine w_region ?_
  refine o_run rfl (e_val rfl (y_p rfl) ?_)
  refine o_run rfl (e_val rfl (y_p rfl) ?_)
  refine o_run rfl (e_val rfl (y_p rfl) ?_)
  first | refine PW.wayD (t := 5) rfl rfl (fun h1 => ?_) (fun h1 => ?_) | refine PW.way (t := 5) rfl rfl (fun h1 => ?_) (fun h1 => ?_)
  · refine g_no rfl rfl rfl rfl ?_
    refine g_no rfl rfl rfl rfl ?_
    refine g_no rfl rfl rfl rfl ?_
    refine g_un rfl rfl rfl ?_
    refine g_un rfl rfl rfl ?_
    refine g_no rfl rfl rfl rfl ?_
    refine o_run rfl (e_val rfl (y_p rfl) ?_)
    refine o_run rfl (e_val rfl (y_p rfl) ?_)
    refine w_nil ?_
    refine q_then ?_
    refine w_ret ?_
    refine r_one rfl rfl ?_
    -- leaf 1
    first | exact congrArg Value.bool (decide_eq_true (by omega)).symm | exact congrArg Value.bool (decide_eq_false (by omega)).symm | exact congrArg Value.bool (decide_eq_decide.2 (by omega))
  · refine o_yes rfl rfl rfl (e_val rfl (y_p rfl) ?_)
    refine o_yes rfl rfl rfl (e_val rfl (y_p rfl) ?_)
    refine o_yes rfl rfl rfl (e_val rfl (y_p rfl) ?_)
    first | refine PW.wayD (t := 8) rfl rfl (fun h2 => ?_) (fun h2 => ?_) | refine PW.way (t := 8) rfl rfl (fun h2 => ?_) (fun h2 => ?_)
    · refine o_yes rfl rfl rfl (e_val rfl (y_p rfl) ?_)
      refine o_yes rfl rfl rfl (e_val rfl (y_p rfl) ?_)
      refine o_yes rfl rfl rfl (e_val rfl (y_p rfl) ?_)
      refine o_run rfl (e_val rfl (y_p rfl) ?_)
      refine o_run rfl (e_val rfl (y_p rfl) ?_)
      refine w_nil ?_
      refine q_then ?_
      refine w_ret ?_
      refine r_one rfl rfl ?_
      -- leaf 2
      first | exact congrArg Value.bool (decide_eq_true (by omega)).symm | exact congrArg Value.bool (decide_eq_false (by omega)).symm | exact congrArg Value.bool (decide_eq_decide.2 (by omega))
    · refine g_no rfl rfl rfl rfl ?_
      refine g_no rfl rfl rfl rfl ?_
      refine o_yes rfl rfl rfl (e_val rfl (y_p rfl) ?_)
      refine o_run rfl (e_val rfl (y_p rfl) ?_)
      refine o_run rfl (e_val rfl (y_p rfl) ?_)
      refine w_nil ?_
      refine q_then ?_
      refine w_ret ?_
      refine r_one rfl rfl ?_
      -- leaf 3
      first | exact congrArg Value.bool (decide_eq_true (by omega)).symm | exact congrArg Value.bool (decide_eq_false (by omega)).symm | exact congrArg Value.bool (decide_eq_decide.2 (by omega))

theorem isBlank_iff {c : UInt8} : isBlankB c = true ↔ c.toNat = 32 ∨ c.toNat = 9 := by simp [isBlankB]
theorem isBlank_iff' {c : UInt8} : isBlankB c = false ↔ ¬ (c.toNat = 32 ∨ c.toNat = 9) := by simp only [isBlankB, decide_eq_false_iff_not]

theorem c_inValue (c : UInt8) (F : FH) : FnV Tryz.prog 256 [byte (c.toNat : Int)] F (.bool (inValueB c)) := by
  refine fn_walk Tryz.func256 (by kernel_rfl) rfl rfl rfl ?_
  intro w0
  simp only [numb, List.map_nil, List.map_cons, Nat.zero_add, Nat.reduceAdd, List.cons_append, List.nil_append]
  refine w_seq ?_
  refine w_region ?_
  refine o_run rfl (e_val rfl (y_p rfl) ?_)
  refine w_nil ?_
  refine q_then ?_
  refine w_seq ?_
  refine w_region ?_
  refine o_run rfl (e_val rfl (y_p rfl) ?_)
  refine o_run rfl (e_callV rfl rfl (c_isBlank _ _) rfl ?_)
  refine o_run rfl (e_val rfl (y_p rfl) ?_)
  first | refine PW.wayD (t := 5) rfl rfl (fun h1 => ?_) (fun h1 => ?_) | refine PW.way (t := 5) rfl rfl (fun h1 => ?_) (fun h1 => ?_)
  · refine g_no rfl rfl rfl rfl ?_
    refine g_no rfl rfl rfl rfl ?_
    refine g_no rfl rfl rfl rfl ?_
    refine g_un rfl rfl rfl ?_
    refine g_un rfl rfl rfl ?_
    refine g_no rfl rfl rfl rfl ?_
    refine o_run rfl (e_val rfl (y_p rfl) ?_)
    refine o_run rfl (e_val rfl (y_p rfl) ?_)
    refine w_nil ?_
    refine q_then ?_
    refine w_ret ?_
    refine r_one rfl rfl ?_
    -- leaf 1
    try rw [isBlank_iff] at h1
    try rw [isBlank_iff'] at h1
    first | exact congrArg Value.bool (decide_eq_true (by omega)).symm | exact congrArg Value.bool (decide_eq_false (by omega)).symm | exact congrArg Value.bool (decide_eq_decide.2 (by omega))
  · refine o_yes rfl rfl rfl (e_val rfl (y_p rfl) ?_)
    refine o_yes rfl rfl rfl (e_val rfl (y_p rfl) ?_)
    refine o_yes rfl rfl rfl (e_val rfl (y_p rfl) ?_)
    first | refine PW.wayD (t := 8) rfl rfl (fun h2 => ?_) (fun h2 => ?_) | refine PW.way (t := 8) rfl rfl (fun h2 => ?_) (fun h2 => ?_)
    · refine o_yes rfl rfl rfl (e_val rfl (y_p rfl) ?_)
      refine o_yes rfl rfl rfl (e_val rfl (y_p rfl) ?_)
      refine o_yes rfl rfl rfl (e_val rfl (y_p rfl) ?_)
      refine o_run rfl (e_val rfl (y_p rfl) ?_)
      refine o_run rfl (e_val rfl (y_p rfl) ?_)
      refine w_nil ?_
      refine q_then ?_
      refine w_ret ?_
      refine r_one rfl rfl ?_
      -- leaf 2
      try rw [isBlank_iff] at h1
      try rw [isBlank_iff'] at h1
      first | exact congrArg Value.bool (decide_eq_true (by omega)).symm | exact congrArg Value.bool (decide_eq_false (by omega)).symm | exact congrArg Value.bool (decide_eq_decide.2 (by omega))
    · refine g_no rfl rfl rfl rfl ?_
      refine g_no rfl rfl rfl rfl ?_
      refine o_yes rfl rfl rfl (e_val rfl (y_p rfl) ?_)
      refine o_run rfl (e_val rfl (y_p rfl) ?_)
      refine o_run rfl (e_val rfl (y_p rfl) ?_)
      refine w_nil ?_
      refine q_then ?_
      refine w_ret ?_
      refine r_one rfl rfl ?_
      -- leaf 3
      try rw [isBlank_iff] at h1
      try rw [isBlank_iff'] at h1
      first | exact congrArg Value.bool (decide_eq_true (by omega)).symm | exact congrArg Value.bool (decide_eq_false (by omega)).symm | exact congrArg Value.bool (decide_eq_decide.2 (by omega))

theorem c_isDigit (c : UInt8) (F : FH) : FnV Tryz.prog 104 [byte (c.toNat : Int)] F (.bool (isDigitB c)) := by
  refine fn_walk Tryz.func104 (by kernel_rfl) rfl rfl rfl ?_
  intro w0
  simp only [numb, List.map_nil, List.map_cons, Nat.zero_add, Nat.reduceAdd, List.cons_append, List.nil_append]
  refine w_seq ?_
  refine w_region ?_
  refine o_run rfl (e_val rfl (y_p rfl) ?_)
  refine w_nil ?_
  refine q_then ?_
  refine w_seq ?_
  refine w_region ?_
  refine o_run rfl (e_val rfl (y_p rfl) ?_)
  refine o_run rfl (e_val rfl (y_p rfl) ?_)
  refine o_run rfl (e_val rfl (y_p rfl) ?_)
  first | refine PW.wayD (t := 5) rfl rfl (fun h1 => ?_) (fun h1 => ?_) | refine PW.way (t := 5) rfl rfl (fun h1 => ?_) (fun h1 => ?_)
  · refine o_yes rfl rfl rfl (e_val rfl (y_p rfl) ?_)
    refine o_yes rfl rfl rfl (e_val rfl (y_p rfl) ?_)
    refine o_run rfl (e_val rfl (y_p rfl) ?_)
    refine o_run rfl (e_val rfl (y_p rfl) ?_)
    refine w_nil ?_
    refine q_then ?_
    refine w_ret ?_
    refine r_one rfl rfl ?_
    -- leaf 1
    first | exact congrArg Value.bool (decide_eq_true (by omega)).symm | exact congrArg Value.bool (decide_eq_false (by omega)).symm | exact congrArg Value.bool (decide_eq_decide.2 (by omega))
  · refine g_no rfl rfl rfl rfl ?_
    refine g_no rfl rfl rfl rfl ?_
    refine o_run rfl (e_val rfl (y_p rfl) ?_)
    refine o_run rfl (e_val rfl (y_p rfl) ?_)
    refine w_nil ?_
    refine q_then ?_
    refine w_ret ?_
    refine r_one rfl rfl ?_
    -- leaf 2
    first | exact congrArg Value.bool (decide_eq_true (by omega)).symm | exact congrArg Value.bool (decide_eq_false (by omega)).symm | exact congrArg Value.bool (decide_eq_decide.2 (by omega))

theorem c_marks (F : FH) : FnV Tryz.prog 261 [] F (.agg marksV.toArray) := by
  refine fn_walk Tryz.func261 (by kernel_rfl) rfl rfl rfl ?_
  intro w0
  simp only [numb, List.map_nil, List.map_cons, Nat.zero_add, Nat.reduceAdd, List.cons_append, List.nil_append]
  refine w_seq ?_
  refine w_region ?_
  refine o_run rfl (e_alloc ty294 rfl rfl (fun b0 => ?_))
  refine w_nil ?_
  refine q_then ?_
  refine w_seq ?_
  refine w_region ?_
  refine o_run rfl (e_val rfl (y_buildA ty294 ty5 rfl rfl rfl) ?_)
  refine o_run rfl (e_st ty294 rfl rfl rfl rfl rfl rfl ?_)
  refine w_nil ?_
  refine q_then ?_
  refine w_ret ?_
  refine r_cell rfl ty294 rfl rfl ?_
  -- leaf 1
  rfl

theorem c_inToken (c : UInt8) (F : FH) : FnV Tryz.prog 240 [byte (c.toNat : Int)] F (.bool (inTokenB c)) := by
  refine fn_walk Tryz.func240 (by kernel_rfl) rfl rfl rfl ?_
  intro w0
  simp only [numb, List.map_nil, List.map_cons, Nat.zero_add, Nat.reduceAdd, List.cons_append, List.nil_append]
  refine w_seq ?_
  refine w_region ?_
  refine o_run rfl (e_val rfl (y_p rfl) ?_)
  refine w_nil ?_
  refine q_then ?_
  refine w_seq ?_
  refine w_seq ?_
  refine w_region ?_
  refine o_run rfl (e_val rfl (y_p rfl) ?_)
  refine o_run rfl (e_val rfl (y_pe (byte ((c ||| 32).toNat : Int)) rfl (congrArg (Value.int .u8) (u8_or c 32))) ?_)
  refine o_run rfl (e_val rfl (y_p rfl) ?_)
  refine w_nil ?_
  refine q_then ?_
  refine w_seq ?_
  refine w_join (T := Unit) (fun _ => ([(0, byte (c.toNat : Int)), (21, .bool (decide (97 ≤ (c ||| 32).toNat ∧ (c ||| 32).toNat ≤ 122 ∨ 48 ≤ c.toNat ∧ c.toNat ≤ 57)))], F, [])) (fun _ => True) ?_ ?_
  · refine w_region ?_
    refine o_run rfl (e_val rfl (y_p rfl) ?_)
    refine o_run rfl (e_val rfl (y_p rfl) ?_)
    refine o_run rfl (e_val rfl (y_p rfl) ?_)
    first | refine PW.wayD (t := 10) rfl rfl (fun h1 => ?_) (fun h1 => ?_) | refine PW.way (t := 10) rfl rfl (fun h1 => ?_) (fun h1 => ?_)
    · refine o_yes rfl rfl rfl (e_val rfl (y_p rfl) ?_)
      refine o_yes rfl rfl rfl (e_val rfl (y_p rfl) ?_)
      refine o_run rfl (e_val rfl (y_p rfl) ?_)
      refine o_run rfl (e_val rfl (y_p rfl) ?_)
      first | refine PW.wayD (t := 14) rfl rfl (fun h2 => ?_) (fun h2 => ?_) | refine PW.way (t := 14) rfl rfl (fun h2 => ?_) (fun h2 => ?_)
      · refine g_no rfl rfl rfl rfl ?_
        refine g_no rfl rfl rfl rfl ?_
        refine g_no rfl rfl rfl rfl ?_
        refine g_un rfl rfl rfl ?_
        refine g_un rfl rfl rfl ?_
        refine g_no rfl rfl rfl rfl ?_
        refine o_run rfl (e_val rfl (y_p rfl) ?_)
        refine w_nil ?_
        refine q_join () trivial (by repeat (first | exact trivial | refine ⟨by (first | rfl | exact congrArg (fun b => some (Value.bool b)) (decide_eq_true (by omega)).symm | exact congrArg (fun b => some (Value.bool b)) (decide_eq_false (by omega)).symm | exact congrArg (fun b => some (Value.bool b)) (decide_eq_decide.2 (by omega))), ?_⟩)) rfl rfl
      · refine o_yes rfl rfl rfl (e_val rfl (y_p rfl) ?_)
        refine o_yes rfl rfl rfl (e_val rfl (y_p rfl) ?_)
        refine o_yes rfl rfl rfl (e_val rfl (y_p rfl) ?_)
        first | refine PW.wayD (t := 17) rfl rfl (fun h3 => ?_) (fun h3 => ?_) | refine PW.way (t := 17) rfl rfl (fun h3 => ?_) (fun h3 => ?_)
        · refine o_yes rfl rfl rfl (e_val rfl (y_p rfl) ?_)
          refine o_yes rfl rfl rfl (e_val rfl (y_p rfl) ?_)
          refine o_yes rfl rfl rfl (e_val rfl (y_p rfl) ?_)
          refine o_run rfl (e_val rfl (y_p rfl) ?_)
          refine w_nil ?_
          refine q_join () trivial (by repeat (first | exact trivial | refine ⟨by (first | rfl | exact congrArg (fun b => some (Value.bool b)) (decide_eq_true (by omega)).symm | exact congrArg (fun b => some (Value.bool b)) (decide_eq_false (by omega)).symm | exact congrArg (fun b => some (Value.bool b)) (decide_eq_decide.2 (by omega))), ?_⟩)) rfl rfl
        · refine g_no rfl rfl rfl rfl ?_
          refine g_no rfl rfl rfl rfl ?_
          refine o_yes rfl rfl rfl (e_val rfl (y_p rfl) ?_)
          refine o_run rfl (e_val rfl (y_p rfl) ?_)
          refine w_nil ?_
          refine q_join () trivial (by repeat (first | exact trivial | refine ⟨by (first | rfl | exact congrArg (fun b => some (Value.bool b)) (decide_eq_true (by omega)).symm | exact congrArg (fun b => some (Value.bool b)) (decide_eq_false (by omega)).symm | exact congrArg (fun b => some (Value.bool b)) (decide_eq_decide.2 (by omega))), ?_⟩)) rfl rfl
    · refine g_no rfl rfl rfl rfl ?_
      refine g_no rfl rfl rfl rfl ?_
      refine o_run rfl (e_val rfl (y_p rfl) ?_)
      refine o_run rfl (e_val rfl (y_p rfl) ?_)
      refine o_yes rfl rfl rfl (e_val rfl (y_p rfl) ?_)
      refine o_yes rfl rfl rfl (e_val rfl (y_p rfl) ?_)
      refine o_yes rfl rfl rfl (e_val rfl (y_p rfl) ?_)
      first | refine PW.wayD (t := 17) rfl rfl (fun h2 => ?_) (fun h2 => ?_) | refine PW.way (t := 17) rfl rfl (fun h2 => ?_) (fun h2 => ?_)
      · refine o_yes rfl rfl rfl (e_val rfl (y_p rfl) ?_)
        refine o_yes rfl rfl rfl (e_val rfl (y_p rfl) ?_)
        refine o_yes rfl rfl rfl (e_val rfl (y_p rfl) ?_)
        refine o_run rfl (e_val rfl (y_p rfl) ?_)
        refine w_nil ?_
        refine q_join () trivial (by repeat (first | exact trivial | refine ⟨by (first | rfl | exact congrArg (fun b => some (Value.bool b)) (decide_eq_true (by omega)).symm | exact congrArg (fun b => some (Value.bool b)) (decide_eq_false (by omega)).symm | exact congrArg (fun b => some (Value.bool b)) (decide_eq_decide.2 (by omega))), ?_⟩)) rfl rfl
      · refine g_no rfl rfl rfl rfl ?_
        refine g_no rfl rfl rfl rfl ?_
        refine o_yes rfl rfl rfl (e_val rfl (y_p rfl) ?_)
        refine o_run rfl (e_val rfl (y_p rfl) ?_)
        refine w_nil ?_
        refine q_join () trivial (by repeat (first | exact trivial | refine ⟨by (first | rfl | exact congrArg (fun b => some (Value.bool b)) (decide_eq_true (by omega)).symm | exact congrArg (fun b => some (Value.bool b)) (decide_eq_false (by omega)).symm | exact congrArg (fun b => some (Value.bool b)) (decide_eq_decide.2 (by omega))), ?_⟩)) rfl rfl
  · rintro _ _
    dsimp only
    refine q_then ?_
    first | refine w_condD rfl (fun h1 => ?_) (fun h1 => ?_) | refine w_condN rfl (fun h1 => ?_) (fun h1 => ?_) | refine w_cond rfl (fun h1 => ?_) (fun h1 => ?_)
    · refine w_seq ?_
      refine w_region ?_
      refine o_run rfl (e_val rfl (y_p rfl) ?_)
      refine w_nil ?_
      refine q_then ?_
      refine w_ret ?_
      refine q_thenR ?_
      refine r_one rfl rfl ?_
      -- leaf 1
      first | exact congrArg Value.bool (decide_eq_true (by omega)).symm | exact congrArg Value.bool (decide_eq_false (by omega)).symm | exact congrArg Value.bool (decide_eq_decide.2 (by omega))
    · refine w_skip ?_
      refine q_then ?_
      refine w_seq ?_
      refine w_seq ?_
      refine w_region ?_
      refine o_run rfl (e_callV rfl rfl (c_marks _) rfl ?_)
      refine o_run rfl (e_val rfl (y_p rfl) ?_)
      refine w_nil ?_
      refine q_then ?_
      refine w_block ?_
      refine w_loop (T := Nat) (fun k => ([(0, byte (c.toNat : Int)), (22, .agg marksV.toArray), (23, int k)], F, [])) (fun k => k ≤ 15 ∧ ∀ j, j < k → marksL.getD j 0 ≠ c) (fun k => 15 - k) 0 (by simp) (by repeat (first | exact trivial | refine ⟨rfl, ?_⟩)) rfl rfl ?_
      rintro k ⟨hk, hj⟩
      dsimp only
      refine w_seq ?_
      refine w_region ?_
      refine o_run rfl (e_val rfl (y_p rfl) ?_)
      refine w_nil ?_
      refine q_then ?_
      refine w_seq ?_
      first | refine w_condD rfl (fun h2 => ?_) (fun h2 => ?_) | refine w_condN rfl (fun h2 => ?_) (fun h2 => ?_) | refine w_cond rfl (fun h2 => ?_) (fun h2 => ?_)
      · refine w_skip ?_
        refine q_then ?_
        refine w_seq ?_
        refine w_block ?_
        refine w_seq ?_
        refine w_region ?_
        refine o_run rfl (e_val rfl (y_ixA ty294 ty5 rfl rfl (by omega) (marks_nth (by omega))) ?_)
        refine o_run rfl (e_val rfl (y_p rfl) ?_)
        refine w_nil ?_
        refine q_then ?_
        refine w_seq ?_
        refine w_region ?_
        refine o_run rfl (e_val rfl (y_p rfl) ?_)
        refine o_run rfl (e_val rfl (y_p rfl) ?_)
        refine o_run rfl (e_val rfl (y_p rfl) ?_)
        refine w_nil ?_
        refine q_then ?_
        first | refine w_condD rfl (fun h3 => ?_) (fun h3 => ?_) | refine w_condN rfl (fun h3 => ?_) (fun h3 => ?_) | refine w_cond rfl (fun h3 => ?_) (fun h3 => ?_)
        · refine w_seq ?_
          refine w_region ?_
          refine o_run rfl (e_val rfl (y_p rfl) ?_)
          refine w_nil ?_
          refine q_then ?_
          refine w_ret ?_
          refine q_inR ?_
          refine q_thenR ?_
          refine q_thenR ?_
          refine q_inR ?_
          refine q_thenR ?_
          refine r_one rfl rfl ?_
          -- leaf 2
          have e : marksL.getD k 0 = c := UInt8.toNat_inj.1 (Int.ofNat.inj h3)
          refine congrArg Value.bool (decide_eq_true (.inr (.inr ?_))).symm
          have hk15 : k < marksL.length := by simp only [marksL, List.length_cons, List.length_nil]; omega
          rw [← e]; simp only [List.getD_eq_getElem?_getD, List.getElem?_eq_getElem hk15, Option.getD_some]; exact List.getElem_mem hk15
        · refine w_skip ?_
          refine q_in ?_
          refine q_then ?_
          refine w_region ?_
          refine o_run rfl (e_val rfl (y_addI rfl rfl (by omega)) ?_)
          refine o_run rfl (e_val rfl (y_p rfl) ?_)
          refine w_nil ?_
          refine q_round (k+1) ⟨by omega, fun j hj' => ?_⟩ (by omega) ⟨rfl, rfl, rfl, trivial⟩ rfl rfl
          by_cases hjk : j = k
          · subst hjk; exact fun he => h3 (congrArg (fun c : UInt8 => (c.toNat : Int)) he)
          · exact hj j (by omega)
      · refine w_exit ?_
        refine q_thenE ?_
        refine q_thenE ?_
        refine q_inE ?_
        refine q_then ?_
        refine w_seq ?_
        refine w_region ?_
        refine o_run rfl (e_val rfl (y_p rfl) ?_)
        refine w_nil ?_
        refine q_then ?_
        refine w_ret ?_
        refine r_one rfl rfl ?_
        -- leaf 3
        refine congrArg Value.bool (decide_eq_false ?_).symm
        rintro (h | h | h)
        · omega
        · omega
        · obtain ⟨j, hj', he⟩ := List.getElem_of_mem h
          have hj15 : j < 15 := hj'
          exact hj j (by omega) (by simp only [List.getD_eq_getElem?_getD, List.getElem?_eq_getElem hj', Option.getD_some]; exact he)

theorem c_all (l : List UInt8) (hl : l.length ≤ 4000000000) (p : UInt8 → Bool) (g : FuncId) (cs : List Value) (F : FH) (hg : ∀ c : UInt8, FnV Tryz.prog g ([byte (c.toNat : Int)] ++ cs) F (.bool (p c))) : FnV Tryz.prog 103 [str l, .func (.func g) #[] cs.toArray] F (.bool (l.all p)) := by
  refine fn_walk Tryz.func103 (by kernel_rfl) rfl rfl rfl ?_
  intro w0
  simp only [numb, List.map_nil, List.map_cons, Nat.zero_add, Nat.reduceAdd, List.cons_append, List.nil_append]
  refine w_seq ?_
  refine w_region ?_
  refine o_run rfl (e_val rfl (y_p rfl) ?_)
  refine w_nil ?_
  refine q_then ?_
  refine w_seq ?_
  refine w_seq ?_
  refine w_region ?_
  refine o_run rfl (e_val rfl (y_p rfl) ?_)
  refine o_run rfl (e_val rfl (y_lenS ty9 rfl) ?_)
  refine o_run rfl (e_val rfl (y_p rfl) ?_)
  refine w_nil ?_
  refine q_then ?_
  refine w_block ?_
  refine w_loop (T := Nat) (fun k => ([(0, str l), (1, .func (.func g) #[] cs.toArray), (7, int l.length), (8, int k)], F, [])) (fun k => k ≤ l.length ∧ ∀ j (h : j < l.length), j < k → p l[j] = true) (fun k => l.length - k) 0 (by simp) (by repeat (first | exact trivial | refine ⟨rfl, ?_⟩)) rfl rfl ?_
  rintro k ⟨hk, hj⟩
  dsimp only
  refine w_seq ?_
  refine w_region ?_
  refine o_run rfl (e_val rfl (y_p rfl) ?_)
  refine w_nil ?_
  refine q_then ?_
  refine w_seq ?_
  first | refine w_condD rfl (fun h1 => ?_) (fun h1 => ?_) | refine w_condN rfl (fun h1 => ?_) (fun h1 => ?_) | refine w_cond rfl (fun h1 => ?_) (fun h1 => ?_)
  · refine w_skip ?_
    refine q_then ?_
    refine w_seq ?_
    refine w_block ?_
    refine w_seq ?_
    refine w_region ?_
    refine o_run rfl (e_val rfl (y_p rfl) ?_)
    refine o_run rfl (e_val rfl (y_p rfl) ?_)
    refine w_nil ?_
    refine q_then ?_
    refine w_seq ?_
    refine w_region ?_
    refine o_run rfl (e_val rfl (y_p rfl) ?_)
    refine o_run rfl (e_val rfl (y_p rfl) ?_)
    refine o_run rfl (e_val rfl (y_p rfl) ?_)
    refine o_run rfl (e_val rfl (y_ixS ty9 rfl rfl (by omega)) ?_)
    refine o_run rfl (e_callV rfl rfl (hg (l.getD k 0)) rfl ?_)
    refine o_run rfl (e_val rfl (y_p rfl) ?_)
    refine w_nil ?_
    refine q_then ?_
    first | refine w_condD rfl (fun h2 => ?_) (fun h2 => ?_) | refine w_condN rfl (fun h2 => ?_) (fun h2 => ?_) | refine w_cond rfl (fun h2 => ?_) (fun h2 => ?_)
    · refine w_seq ?_
      refine w_region ?_
      refine o_run rfl (e_val rfl (y_p rfl) ?_)
      refine w_nil ?_
      refine q_then ?_
      refine w_ret ?_
      refine q_inR ?_
      refine q_thenR ?_
      refine q_thenR ?_
      refine q_inR ?_
      refine q_thenR ?_
      refine r_one rfl rfl ?_
      -- leaf 1
      have hk' : k < l.length := by omega
      exact congrArg Value.bool (all_not hk' (by simpa [hk'] using h2)).symm
    · refine w_skip ?_
      refine q_in ?_
      refine q_then ?_
      refine w_region ?_
      refine o_run rfl (e_val rfl (y_addI rfl rfl (by omega)) ?_)
      refine o_run rfl (e_val rfl (y_p rfl) ?_)
      refine w_nil ?_
      refine q_round (k+1) ⟨by omega, fun j h hj' => ?_⟩ (by omega) ⟨rfl, rfl, rfl, rfl, trivial⟩ rfl rfl
      by_cases hjk : j = k
      · subst hjk; simpa [h] using h2
      · exact hj j h (by omega)
  · refine w_exit ?_
    refine q_thenE ?_
    refine q_thenE ?_
    refine q_inE ?_
    refine q_then ?_
    refine w_seq ?_
    refine w_region ?_
    refine o_run rfl (e_val rfl (y_p rfl) ?_)
    refine w_nil ?_
    refine q_then ?_
    refine w_ret ?_
    refine r_one rfl rfl ?_
    -- leaf 2
    exact congrArg Value.bool (all_take (k := k) (by omega) hj).symm

theorem c_Is (l : List UInt8) (hl : l.length ≤ 4000000000) (F : FH) : FnV Tryz.prog 187 [str l] F (.bool (tokenB l)) := by
  refine fn_walk Tryz.func187 (by kernel_rfl) rfl rfl rfl ?_
  intro w0
  simp only [numb, List.map_nil, List.map_cons, Nat.zero_add, Nat.reduceAdd, List.cons_append, List.nil_append]
  refine w_seq ?_
  refine w_region ?_
  refine o_run rfl (e_val rfl (y_p rfl) ?_)
  refine w_nil ?_
  refine q_then ?_
  refine w_seq ?_
  refine w_region ?_
  refine o_run rfl (e_val rfl (y_p rfl) ?_)
  refine o_run rfl (e_val rfl (y_p rfl) ?_)
  refine o_run rfl (e_val rfl (y_p rfl) ?_)
  first | refine PW.wayD (t := 5) rfl rfl (fun h1 => ?_) (fun h1 => ?_) | refine PW.way (t := 5) rfl rfl (fun h1 => ?_) (fun h1 => ?_)
  · refine o_yes rfl rfl rfl (e_val rfl (y_p rfl) ?_)
    refine o_yes rfl rfl rfl (e_callV rfl rfl (c_all _ hl inTokenB _ [] _ (fun c => c_inToken c _)) rfl ?_)
    refine o_run rfl (e_val rfl (y_p rfl) ?_)
    refine o_run rfl (e_val rfl (y_p rfl) ?_)
    refine w_nil ?_
    refine q_then ?_
    refine w_ret ?_
    refine r_one rfl rfl ?_
    -- leaf 1
    simp only [tokenB]; rw [decide_eq_true h1, Bool.true_and]
  · refine g_no rfl rfl rfl rfl ?_
    refine g_no rfl rfl rfl rfl ?_
    refine o_run rfl (e_val rfl (y_p rfl) ?_)
    refine o_run rfl (e_val rfl (y_p rfl) ?_)
    refine w_nil ?_
    refine q_then ?_
    refine w_ret ?_
    refine r_one rfl rfl ?_
    -- leaf 2
    simp only [tokenB]; rw [decide_eq_false h1, Bool.false_and]


theorem upd_one : ∀ {c : List Value} {o : Nat} {v : Value}, o < c.length → upd c o [v] = some (c.set o v)
  | [], _, _, h => by simp at h
  | u :: c, 0, v, _ => by simp [upd, upd_nil]
  | u :: c, o + 1, v, h => by simp only [upd, upd_one (c := c) (o := o) (v := v) (by simpa using h), List.set_cons_succ]
theorem low_src {P : Program} {F : FH} {Γ : Blks} {b cap : Nat} {junk : List Value} {u : TypeId} {fz : Nat × Nat} {C : Obj → Blks} {l : List UInt8}
    [hA : At Γ b (.cells (List.toArray (bytesV (lowL (l.take l.length) ++ l.drop l.length) ++ junk)) u fz) C] : Src P F Γ 1 (.slice (some ⟨b, 0, none⟩) l.length cap) (lowL l).length (bytesV (lowL l)) := by
  have hlen : (lowL l).length = l.length := by simp [lowL]
  rw [hlen]
  refine Src.lit (hA := hA) (off := 0) (k := l.length) (sz := 1) ?_
  have : (bytesV (lowL l)).length = l.length * 1 := by simp [lowL]
  rw [← this]
  refine seg_of (fun j v hj => ?_) (by left; simp [lowL])
  have hlt := (List.getElem?_eq_some_iff.1 hj).1
  simp only [List.take_length, List.drop_length, List.append_nil, Nat.zero_add]
  rw [List.getElem?_append_left hlt]; exact hj
theorem low_ld {l : List UInt8} {k : Nat} {junk : List Value} (hk : k < l.length) : ldv false 1 (bytesV (lowL (l.take k) ++ l.drop k) ++ junk) (0 + ((k : Int)).toNat * 1) = some (byte (l[k].toNat : Int)) := by
  have hlen : (lowL (l.take k)).length = k := by simp [lowL]; omega
  have hX : (lowL (l.take k) ++ l.drop k)[k]? = some l[k] := by
    rw [List.getElem?_append_right (by omega), hlen]; simp [hk]
  simp only [ldv, nth_eq, Int.toNat_natCast, Nat.mul_one, Nat.zero_add]
  rw [List.getElem?_append_left (by simp [lowL]; omega), List.getElem?_map, hX]
  rfl
theorem low_step {l : List UInt8} {k : Nat} (hk : k < l.length) : lowL (l.take (k + 1)) ++ l.drop (k + 1) = (lowL (l.take k) ++ l.drop k).set k (lowC l[k]) := by
  rw [List.take_succ_eq_append_getElem hk, List.drop_eq_getElem_cons hk]
  have hlen : (lowL (l.take k)).length = k := by simp [lowL]; omega
  rw [List.set_append_right _ _ (by omega), hlen, Nat.sub_self, List.set_cons_zero]
  simp only [lowL, List.map_append, List.map_cons, List.map_nil, List.append_assoc, List.cons_append, List.nil_append]
theorem low_st {l : List UInt8} {k : Nat} {junk : List Value} (hk : k < l.length) : upd (bytesV (lowL (l.take k) ++ l.drop k) ++ junk) (0 + ((k : Int)).toNat * 1) [byte ((lowC l[k]).toNat : Int)] = some (bytesV (lowL (l.take (k + 1)) ++ l.drop (k + 1)) ++ junk) := by
  rw [low_step hk]
  simp only [Int.toNat_natCast, Nat.mul_one, Nat.zero_add]
  have hlen : (bytesV (lowL (l.take k) ++ l.drop k)).length = l.length := by simp [lowL]; omega
  rw [upd_one (by simp only [List.length_append, hlen]; omega), List.set_append_left _ _ (by omega), bytesV, bytesV, List.map_set]
theorem low_id {l : List UInt8} {k : Nat} (hk : k < l.length) (h : lowC l[k] = l[k]) : lowL (l.take k) ++ l.drop k = lowL (l.take (k + 1)) ++ l.drop (k + 1) := by
  rw [low_step hk, h]
  have hlen : (lowL (l.take k)).length = k := by simp [lowL]; omega
  apply List.ext_getElem?
  intro j
  rw [List.getElem?_set]
  split
  · rename_i he; subst he
    rw [List.getElem?_append_right (by omega), hlen]
    simp [hk, lowL]; omega
  · rfl

theorem c_Lower (l : List UInt8) (hl : l.length ≤ 4000000000) (F : FH) : FnV Tryz.prog 99 [str l] F (str (lowL l)) := by
  refine fn_walk Tryz.func99 (by kernel_rfl) rfl rfl rfl ?_
  intro w0
  simp only [numb, List.map_nil, List.map_cons, Nat.zero_add, Nat.reduceAdd, List.cons_append, List.nil_append]
  refine w_seq ?_
  refine w_region ?_
  refine o_run rfl (e_val rfl (y_p rfl) ?_)
  refine w_nil ?_
  refine q_then ?_
  refine w_seq ?_
  refine w_region ?_
  refine o_run rfl (e_val rfl (y_p rfl) ?_)
  refine o_run rfl (e_s2b' ty9 ty22 ty5 rfl rfl (fun b cap junk fz hcap hfz => ?_))
  refine o_run rfl (e_val rfl (y_p rfl) ?_)
  refine w_nil ?_
  refine q_then ?_
  refine w_seq ?_
  refine w_seq ?_
  refine w_region ?_
  refine o_run rfl (e_val rfl (y_p rfl) ?_)
  refine o_run rfl (e_val rfl (y_lenL ty22 rfl) ?_)
  refine o_run rfl (e_val rfl (y_p rfl) ?_)
  refine w_nil ?_
  refine q_then ?_
  refine w_block ?_
  refine w_loop (T := Nat) (fun k => ([(3, .slice (some ⟨b, 0, none⟩) l.length cap), (8, .slice (some ⟨b, 0, none⟩) l.length cap), (9, int l.length), (10, int k)], F, [(b, .cells (List.toArray (bytesV (lowL (l.take k) ++ l.drop k) ++ junk)) 5 fz)])) (fun k => k ≤ l.length) (fun k => l.length - k) 0 (by simp) (by repeat (first | exact trivial | refine ⟨rfl, ?_⟩)) rfl (by simp [lowL]) ?_
  intro k hk
  dsimp only
  refine w_seq ?_
  refine w_region ?_
  refine o_run rfl (e_val rfl (y_p rfl) ?_)
  refine w_nil ?_
  refine q_then ?_
  refine w_seq ?_
  first | refine w_condD rfl (fun h1 => ?_) (fun h1 => ?_) | refine w_condN rfl (fun h1 => ?_) (fun h1 => ?_) | refine w_cond rfl (fun h1 => ?_) (fun h1 => ?_)
  · refine w_skip ?_
    refine q_then ?_
    refine w_seq ?_
    refine w_block ?_
    refine w_seq ?_
    refine w_region ?_
    refine o_run rfl (e_val rfl (y_p rfl) ?_)
    refine o_run rfl (e_val rfl (y_ia ty22 ty5 rfl rfl (by omega)) ?_)
    refine o_run rfl (e_val rfl (y_ld ty5 rfl (low_ld (by omega))) ?_)
    refine o_run rfl (e_val rfl (y_p rfl) ?_)
    refine o_run rfl (e_val rfl (y_p rfl) ?_)
    refine w_nil ?_
    refine q_then ?_
    refine w_seq ?_
    refine w_region ?_
    refine o_run rfl (e_val rfl (y_p rfl) ?_)
    refine o_run rfl (e_val rfl (y_p rfl) ?_)
    refine o_run rfl (e_val rfl (y_p rfl) ?_)
    first | refine PW.wayD (t := 17) rfl rfl (fun h2 => ?_) (fun h2 => ?_) | refine PW.way (t := 17) rfl rfl (fun h2 => ?_) (fun h2 => ?_)
    · refine o_yes rfl rfl rfl (e_val rfl (y_p rfl) ?_)
      refine o_yes rfl rfl rfl (e_val rfl (y_p rfl) ?_)
      refine o_run rfl (e_val rfl (y_p rfl) ?_)
      refine w_nil ?_
      refine q_then ?_
      first | refine w_condD rfl (fun h3 => ?_) (fun h3 => ?_) | refine w_condN rfl (fun h3 => ?_) (fun h3 => ?_) | refine w_cond rfl (fun h3 => ?_) (fun h3 => ?_)
      · refine w_region ?_
        have hk' : k < l.length := by omega
        have hlow : lowC l[k] = l[k] ||| 32 := by simp only [lowC]; rw [if_pos (by omega)]
        refine o_run rfl (e_val rfl (y_p rfl) ?_)
        refine o_run rfl (e_val rfl (y_p rfl) ?_)
        refine o_run rfl (e_val rfl (y_p rfl) ?_)
        refine o_run rfl (e_val rfl (y_pe (byte ((l[k] ||| 32).toNat : Int)) rfl (congrArg (Value.int .u8) (u8_or l[k] 32))) ?_)
        refine o_run rfl (e_val rfl (y_ia ty22 ty5 rfl rfl (by omega)) ?_)
        refine o_run rfl (e_st' (l := [byte ((lowC l[k]).toNat : Int)]) ty5 rfl rfl (by rw [hlow]; rfl) rfl rfl (low_st hk') (fun j hj hj' => hfz j (by omega) (by omega)) ?_)
        refine w_nil ?_
        refine q_in ?_
        refine q_then ?_
        refine w_region ?_
        refine o_run rfl (e_val rfl (y_addI rfl rfl (by omega)) ?_)
        refine o_run rfl (e_val rfl (y_p rfl) ?_)
        refine w_nil ?_
        refine q_round (k+1) (by omega) (by omega) ⟨rfl, rfl, rfl, rfl, trivial⟩ rfl rfl
      · refine w_skip ?_
        refine q_in ?_
        refine q_then ?_
        refine w_region ?_
        refine o_run rfl (e_val rfl (y_addI rfl rfl (by omega)) ?_)
        refine o_run rfl (e_val rfl (y_p rfl) ?_)
        refine w_nil ?_
        refine q_round (k+1) (by omega) (by omega) ⟨rfl, rfl, rfl, rfl, trivial⟩ rfl (by rw [low_id (k := k) (by omega) (by simp only [lowC]; rw [if_neg (by omega)])])
    · refine g_no rfl rfl rfl rfl ?_
      refine g_no rfl rfl rfl rfl ?_
      refine o_run rfl (e_val rfl (y_p rfl) ?_)
      refine w_nil ?_
      refine q_then ?_
      refine w_condF rfl ?_
      refine w_skip ?_
      refine q_in ?_
      refine q_then ?_
      refine w_region ?_
      refine o_run rfl (e_val rfl (y_addI rfl rfl (by omega)) ?_)
      refine o_run rfl (e_val rfl (y_p rfl) ?_)
      refine w_nil ?_
      refine q_round (k+1) (by omega) (by omega) ⟨rfl, rfl, rfl, rfl, trivial⟩ rfl (by rw [low_id (k := k) (by omega) (by simp only [lowC]; rw [if_neg (by omega)])])
  · refine w_exit ?_
    refine q_thenE ?_
    refine q_thenE ?_
    refine q_inE ?_
    refine q_then ?_
    refine w_seq ?_
    refine w_region ?_
    obtain rfl : k = l.length := by omega
    refine o_run rfl (e_val rfl (y_p rfl) ?_)
    refine o_run rfl (e_val rfl (y_b2s ty22 ty9 ty5 rfl low_src ⟨_, _, _, rfl⟩) ?_)
    refine o_run rfl (e_val rfl (y_p rfl) ?_)
    refine w_nil ?_
    refine q_then ?_
    refine w_ret ?_
    refine r_one rfl rfl ?_
    -- leaf 1
    rfl

end Go.SL
