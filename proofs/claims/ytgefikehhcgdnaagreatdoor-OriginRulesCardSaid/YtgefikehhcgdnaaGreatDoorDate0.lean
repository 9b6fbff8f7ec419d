import Derived.Test.YtgefikehhcgdnaaGreatDoorFind

/- Dates of no text: contracts. No condition. -/
namespace Go.SL
open Go.Proofs
set_option maxRecDepth 10000
abbrev T185 : TypeId := 185
section
variable {P : Program} {X : Cx} {n : Nat} {ρ : Regs} {F : FH} {Γ : Blks} {Q : Exit → Act → World → Prop}
/-- A call, where the blocks that it is handed are found by themselves. -/
theorem e_callS {d : Nat} {go : Operand} {args : Array Operand} {ats : Array TypeId} {ty : TypeId} {pos : String} {af : Array Edge} {g : Option (Nat × Bool)} {K : Act → World → Prop} {f : FuncId} {vs cs : List Value} {Γ1 Γ2 : Blks} {R : Value → Blks → Prop}
    (hg : ev ρ go = some (.func (.func f) #[] cs.toArray)) (ha : evL ρ args.toList = some vs) (hC : Fn P f (vs ++ cs) F Γ1 (fun v _ Γ' => R v Γ')) [hp : Sp Γ Γ1 Γ2] (hd : Nat.blt d n = true)
    (k : ∀ v Γ', R v Γ' → PW X n ((d, v) :: ρ) F (Γ' ++ Γ2) K) :
    PW X n ρ F Γ (fun a w => (Oper.mk (some d) (.call ⟨.value go, args, ats⟩) ty pos af g).wp P a w K Q) := e_callK hg ha hC hp.perm hd k
end
def daysL : List (List UInt8) := [[77, 111, 110, 100, 97, 121], [84, 117, 101, 115, 100, 97, 121], [87, 101, 100, 110, 101, 115, 100, 97, 121], [84, 104, 117, 114, 115, 100, 97, 121], [70, 114, 105, 100, 97, 121], [83, 97, 116, 117, 114, 100, 97, 121], [83, 117, 110, 100, 97, 121]]
def monthsL : List (List UInt8) := [[74, 97, 110], [70, 101, 98], [77, 97, 114], [65, 112, 114], [77, 97, 121], [74, 117, 110], [74, 117, 108], [65, 117, 103], [83, 101, 112], [79, 99, 116], [78, 111, 118], [68, 101, 99]]
theorem daysL_len {k : Nat} (h : k < daysL.length) : 3 ≤ daysL[k].length := by
  have : ∀ x ∈ daysL, 3 ≤ x.length := by decide
  exact this _ (List.getElem_mem h)
theorem monthsL_ne {k : Nat} (h : k < monthsL.length) : monthsL[k] ≠ [] := by
  have : ∀ x ∈ monthsL, x ≠ [] := by decide
  exact this _ (List.getElem_mem h)

theorem c_longDays (F : FH) : FnV Tryz.prog 220 [] F (.agg (List.toArray (daysL.flatMap encS))) := by
  refine fn_walk Tryz.func220 (by kernel_rfl) rfl rfl rfl ?_
  intro w0
  simp only [numb, List.map_nil, List.map_cons, Nat.zero_add, Nat.reduceAdd, List.cons_append, List.nil_append]
  refine w_seq ?_
  refine w_region ?_
  refine o_run rfl (e_alloc ty264 rfl rfl (fun b0 => ?_))
  refine w_nil ?_
  refine q_then ?_
  refine w_seq ?_
  refine w_region ?_
  refine o_run rfl (e_val rfl (y_buildA ty264 ty9 rfl rfl rfl) ?_)
  refine o_run rfl (e_st ty264 rfl rfl rfl rfl rfl rfl ?_)
  refine w_nil ?_
  refine q_then ?_
  refine w_ret ?_
  refine r_cell rfl ty264 rfl rfl ?_
  -- leaf 1
  rfl

theorem c_monthNames (F : FH) : FnV Tryz.prog 222 [] F (.agg (List.toArray (monthsL.flatMap encS))) := by
  refine fn_walk Tryz.func222 (by kernel_rfl) rfl rfl rfl ?_
  intro w0
  simp only [numb, List.map_nil, List.map_cons, Nat.zero_add, Nat.reduceAdd, List.cons_append, List.nil_append]
  refine w_seq ?_
  refine w_region ?_
  refine o_run rfl (e_alloc ty266 rfl rfl (fun b0 => ?_))
  refine w_nil ?_
  refine q_then ?_
  refine w_seq ?_
  refine w_region ?_
  refine o_run rfl (e_val rfl (y_buildA ty266 ty9 rfl rfl rfl) ?_)
  refine o_run rfl (e_st ty266 rfl rfl rfl rfl rfl rfl ?_)
  refine w_nil ?_
  refine q_then ?_
  refine w_ret ?_
  refine r_cell rfl ty266 rfl rfl ?_
  -- leaf 1
  rfl

theorem c_take0 (F : FH) (b : Nat) (q : Bool) (k : Int) (hk : 0 < k) : Fn Tryz.prog 168 [.pointer (some ⟨b, 0, none⟩), int k] F [(b, .cells (List.toArray [str [], .bool q]) T185 (0, 0))] (fun r _ Γ' => r = str [] ∧ Γ' = [(b, .cells (List.toArray [str [], .bool false]) T185 (0, 0))]) := by
  refine fn_walk Tryz.func168 (by kernel_rfl) rfl rfl rfl ?_
  intro w0
  simp only [numb, List.map_nil, List.map_cons, Nat.zero_add, Nat.reduceAdd, List.cons_append, List.nil_append]
  refine w_seq ?_
  refine w_region ?_
  refine o_run rfl (e_val rfl (y_p rfl) ?_)
  refine w_nil ?_
  refine q_then ?_
  refine w_seq ?_
  refine w_seq ?_
  refine w_region ?_
  refine o_run rfl (e_val rfl (y_p rfl) ?_)
  refine o_run rfl (e_val rfl (y_p rfl) ?_)
  refine o_run rfl (e_val rfl (y_fa fo185_0 rfl) ?_)
  refine o_run rfl (e_val rfl (y_ld ty9 rfl rfl) ?_)
  refine o_run rfl (e_val rfl (y_lenS ty9 rfl) ?_)
  refine o_run rfl (e_val rfl (y_p rfl) ?_)
  refine o_run rfl (e_val rfl (y_pe (.bool true) rfl (congrArg Value.bool (decide_eq_true hk))) ?_)
  refine w_nil ?_
  refine q_then ?_
  refine w_condT rfl ?_
  refine w_seq ?_
  refine w_region ?_
  refine o_run rfl (e_val rfl (y_p rfl) ?_)
  refine o_run rfl (e_val rfl (y_p rfl) ?_)
  refine o_run rfl (e_val rfl (y_fa fo185_1 rfl) ?_)
  refine o_run rfl (e_st ty4 rfl rfl rfl rfl rfl rfl ?_)
  refine w_nil ?_
  refine q_then ?_
  refine w_seq ?_
  refine w_region ?_
  refine o_run rfl (e_val rfl (y_p rfl) ?_)
  refine w_nil ?_
  refine q_then ?_
  refine w_ret ?_
  refine q_thenR ?_
  refine r_one rfl rfl ?_
  -- leaf 1
  exact ⟨rfl, rfl⟩

theorem c_need0 (F : FH) (b : Nat) (q : Bool) (s : List UInt8) (hs : s ≠ []) : Fn Tryz.prog 163 [.pointer (some ⟨b, 0, none⟩), str s] F [(b, .cells (List.toArray [str [], .bool q]) T185 (0, 0))] (fun r _ Γ' => r = .tuple #[] ∧ Γ' = [(b, .cells (List.toArray [str [], .bool false]) T185 (0, 0))]) := by
  refine fn_walk Tryz.func163 (by kernel_rfl) rfl rfl rfl ?_
  intro w0
  simp only [numb, List.map_nil, List.map_cons, Nat.zero_add, Nat.reduceAdd, List.cons_append, List.nil_append]
  refine w_seq ?_
  refine w_region ?_
  refine o_run rfl (e_val rfl (y_p rfl) ?_)
  refine o_run rfl (e_val rfl (y_p rfl) ?_)
  refine o_run rfl (e_val rfl (y_lenS ty9 rfl) ?_)
  refine o_run rfl (e_callS rfl rfl (c_take0 F b q _ (by have := List.length_pos_iff.2 hs; omega)) rfl (fun r3 Γ3 hR3 => ?_))
  obtain ⟨rfl, rfl⟩ := hR3
  refine o_run rfl (e_val rfl (y_p rfl) ?_)
  refine o_run rfl (e_val rfl (y_pe (.bool true) rfl (congrArg Value.bool (decide_eq_true (Ne.symm hs)))) ?_)
  refine w_nil ?_
  refine q_then ?_
  refine w_condT rfl ?_
  refine w_region ?_
  refine o_run rfl (e_val rfl (y_p rfl) ?_)
  refine o_run rfl (e_val rfl (y_p rfl) ?_)
  refine o_run rfl (e_val rfl (y_fa fo185_1 rfl) ?_)
  refine o_run rfl (e_st ty4 rfl rfl rfl rfl rfl rfl ?_)
  refine w_nil ?_
  refine r_none rfl ?_
  -- leaf 1
  exact ⟨rfl, rfl⟩

theorem c_number0 (F : FH) (b : Nat) (q : Bool) (k : Int) (hk : 0 < k) : Fn Tryz.prog 164 [.pointer (some ⟨b, 0, none⟩), int k] F [(b, .cells (List.toArray [str [], .bool q]) T185 (0, 0))] (fun r _ Γ' => r = int 0 ∧ Γ' = [(b, .cells (List.toArray [str [], .bool false]) T185 (0, 0))]) := by
  refine fn_walk Tryz.func164 (by kernel_rfl) rfl rfl rfl ?_
  intro w0
  simp only [numb, List.map_nil, List.map_cons, Nat.zero_add, Nat.reduceAdd, List.cons_append, List.nil_append]
  refine w_seq ?_
  refine w_region ?_
  refine o_run rfl (e_box rfl rfl rfl (fun b2 => ?_))
  refine o_run rfl (e_val rfl (y_p rfl) ?_)
  refine w_nil ?_
  refine q_then ?_
  refine w_seq ?_
  refine w_region ?_
  refine o_run rfl (e_val rfl (y_ld ty183 rfl rfl) ?_)
  refine o_run rfl (e_val rfl (y_p rfl) ?_)
  refine o_run rfl (e_callS rfl rfl (c_take0 F b q k hk) rfl (fun r2 Γ2 hR2 => ?_))
  obtain ⟨rfl, rfl⟩ := hR2
  refine o_run rfl (e_val rfl (y_p rfl) ?_)
  refine w_nil ?_
  refine q_then ?_
  refine w_seq ?_
  refine w_region ?_
  refine o_run rfl (e_alloc ty3 rfl rfl (fun b6 => ?_))
  refine o_run rfl (e_st ty3 rfl rfl rfl rfl rfl rfl ?_)
  refine w_nil ?_
  refine q_then ?_
  refine w_seq ?_
  refine w_region ?_
  refine o_run rfl (e_val rfl (y_p rfl) ?_)
  refine o_run rfl (e_val rfl (y_p rfl) ?_)
  refine w_nil ?_
  refine q_then ?_
  refine w_seq ?_
  refine w_seq ?_
  refine w_region ?_
  refine PW.only2 [(b6, .cells (List.toArray [int 0]) T3 (0, 0))] [(b, .cells (List.toArray [str [], .bool false]) T185 (0, 0))] ?_
  refine o_run rfl (e_val rfl (y_p rfl) ?_)
  refine o_run rfl (e_val rfl (y_lenS ty9 rfl) ?_)
  refine o_run rfl (e_val rfl (y_p rfl) ?_)
  refine w_nil ?_
  refine q_then ?_
  refine w_block ?_
  refine w_loop (T := Unit) (fun _ => ([(14, int 0), (15, int 0), (6, .pointer (some ⟨b6, 0, none⟩))], F, (b6, .cells (List.toArray [int 0]) T3 (0, 0)) :: [(b, .cells (List.toArray [str [], .bool false]) T185 (0, 0))])) (fun _ => True) (fun _ => 0) () (trivial) (by repeat (first | exact trivial | refine ⟨rfl, ?_⟩)) rfl rfl ?_
  rintro ⟨⟩ _
  dsimp only
  refine w_seq ?_
  refine w_region ?_
  refine o_run rfl (e_val rfl (y_p (v := .bool false) rfl) ?_)
  refine w_nil ?_
  refine q_then ?_
  refine w_seq ?_
  refine w_condF rfl ?_
  refine w_exit ?_
  refine q_thenE ?_
  refine q_thenE ?_
  refine q_inE ?_
  refine q_then ?_
  refine w_seq ?_
  refine w_region ?_
  refine o_run rfl (e_val rfl (y_ld ty3 rfl rfl) ?_)
  refine o_run rfl (e_val rfl (y_p rfl) ?_)
  refine w_nil ?_
  refine q_then ?_
  refine w_ret ?_
  refine PW.only [(b, .cells (List.toArray [str [], .bool false]) T185 (0, 0))] ?_
  refine r_one rfl rfl ?_
  -- leaf 1
  exact ⟨rfl, rfl⟩

theorem c_month0 (F : FH) (b : Nat) (q : Bool)  : Fn Tryz.prog 165 [.pointer (some ⟨b, 0, none⟩)] F [(b, .cells (List.toArray [str [], .bool q]) T185 (0, 0))] (fun r _ Γ' => r = int 0 ∧ Γ' = [(b, .cells (List.toArray [str [], .bool false]) T185 (0, 0))]) := by
  refine fn_walk Tryz.func165 (by kernel_rfl) rfl rfl rfl ?_
  intro w0
  simp only [numb, List.map_nil, List.map_cons, Nat.zero_add, Nat.reduceAdd, List.cons_append, List.nil_append]
  refine w_seq ?_
  refine w_region ?_
  refine o_run rfl (e_val rfl (y_p rfl) ?_)
  refine w_nil ?_
  refine q_then ?_
  refine w_seq ?_
  refine w_region ?_
  refine o_run rfl (e_val rfl (y_p rfl) ?_)
  refine o_run rfl (e_callS rfl rfl (c_take0 F b q 3 (by decide)) rfl (fun r1 Γ1 hR1 => ?_))
  obtain ⟨rfl, rfl⟩ := hR1
  refine o_run rfl (e_val rfl (y_p rfl) ?_)
  refine w_nil ?_
  refine q_then ?_
  refine w_seq ?_
  refine w_seq ?_
  refine w_region ?_
  refine o_run rfl (e_callV rfl rfl (c_monthNames _) rfl ?_)
  refine o_run rfl (e_val rfl (y_p rfl) ?_)
  refine w_nil ?_
  refine q_then ?_
  refine w_block ?_
  refine w_loop (T := Nat) (fun k => ([(0, .pointer (some ⟨b, 0, none⟩)), (3, str []), (8, .agg (List.toArray (monthsL.flatMap encS))), (9, int k)], F, [(b, .cells (List.toArray [str [], .bool false]) T185 (0, 0))])) (fun k => k ≤ 12) (fun k => 12 - k) 0 (by omega) (by repeat (first | exact trivial | refine ⟨rfl, ?_⟩)) rfl rfl ?_
  rintro k hk
  dsimp only at hk ⊢
  refine w_seq ?_
  refine w_region ?_
  refine o_run rfl (e_val rfl (y_p rfl) ?_)
  refine w_nil ?_
  refine q_then ?_
  refine w_seq ?_
  first | refine w_condD rfl (fun h1 => ?_) (fun h1 => ?_) | refine w_condN rfl (fun h1 => ?_) (fun h1 => ?_) | refine w_cond rfl (fun h1 => ?_) (fun h1 => ?_)
  · refine w_skip ?_
    refine q_then ?_
    refine w_seq ?_
    refine w_block ?_
    refine w_seq ?_
    refine w_region ?_
    have hk' : k < monthsL.length := by simp only [monthsL, List.length_cons, List.length_nil]; omega
    have hne := monthsL_ne hk'
    refine o_run rfl (e_val rfl (y_p rfl) ?_)
    refine o_run rfl (e_val rfl (y_ixA ty266 ty9 rfl rfl (by omega) (ld_fm1 (f := str) monthsL hk')) ?_)
    refine o_run rfl (e_val rfl (y_p rfl) ?_)
    refine o_run rfl (e_val rfl (y_p rfl) ?_)
    refine w_nil ?_
    refine q_then ?_
    refine w_seq ?_
    refine w_region ?_
    refine o_run rfl (e_val rfl (y_p rfl) ?_)
    refine o_run rfl (e_val rfl (y_p rfl) ?_)
    refine o_run rfl (e_val rfl (y_pe (.bool false) rfl (congrArg Value.bool (decide_eq_false hne))) ?_)
    refine w_nil ?_
    refine q_then ?_
    refine w_condF rfl ?_
    refine w_skip ?_
    refine q_in ?_
    refine q_then ?_
    refine w_region ?_
    refine o_run rfl (e_val rfl (y_addI rfl rfl (by omega)) ?_)
    refine o_run rfl (e_val rfl (y_p rfl) ?_)
    refine w_nil ?_
    refine q_round (k + 1) (by omega) (by omega) ⟨rfl, rfl, rfl, rfl, trivial⟩ rfl rfl
  · refine w_exit ?_
    refine q_thenE ?_
    refine q_thenE ?_
    refine q_inE ?_
    refine q_then ?_
    refine w_seq ?_
    refine w_region ?_
    refine o_run rfl (e_val rfl (y_p rfl) ?_)
    refine o_run rfl (e_val rfl (y_p rfl) ?_)
    refine o_run rfl (e_val rfl (y_fa fo185_1 rfl) ?_)
    refine o_run rfl (e_st ty4 rfl rfl rfl rfl rfl rfl ?_)
    refine w_nil ?_
    refine q_then ?_
    refine w_seq ?_
    refine w_region ?_
    refine o_run rfl (e_val rfl (y_p rfl) ?_)
    refine w_nil ?_
    refine q_then ?_
    refine w_ret ?_
    refine r_one rfl rfl ?_
    -- leaf 1
    exact ⟨rfl, rfl⟩

theorem c_day0 (F : FH) (b : Nat) (q : Bool) (lo : Bool) : Fn Tryz.prog 162 [.pointer (some ⟨b, 0, none⟩), .bool lo] F [(b, .cells (List.toArray [str [], .bool q]) T185 (0, 0))] (fun r _ Γ' => r = int 0 ∧ Γ' = [(b, .cells (List.toArray [str [], .bool false]) T185 (0, 0))]) := by
  refine fn_walk Tryz.func162 (by kernel_rfl) rfl rfl rfl ?_
  intro w0
  simp only [numb, List.map_nil, List.map_cons, Nat.zero_add, Nat.reduceAdd, List.cons_append, List.nil_append]
  refine w_seq ?_
  refine w_region ?_
  refine o_run rfl (e_val rfl (y_p rfl) ?_)
  refine w_nil ?_
  refine q_then ?_
  refine w_seq ?_
  refine w_seq ?_
  refine w_region ?_
  refine o_run rfl (e_callV rfl rfl (c_longDays _) rfl ?_)
  refine o_run rfl (e_val rfl (y_p rfl) ?_)
  refine w_nil ?_
  refine q_then ?_
  refine w_block ?_
  refine w_loop (T := Nat) (fun k => ([(0, .pointer (some ⟨b, 0, none⟩)), (1, .bool lo), (7, .agg (List.toArray (daysL.flatMap encS))), (8, int k)], F, [(b, .cells (List.toArray [str [], .bool q]) T185 (0, 0))])) (fun k => k ≤ 7) (fun k => 7 - k) 0 (by omega) (by repeat (first | exact trivial | refine ⟨rfl, ?_⟩)) rfl rfl ?_
  rintro k hk
  dsimp only at hk ⊢
  refine w_seq ?_
  refine w_region ?_
  refine o_run rfl (e_val rfl (y_p rfl) ?_)
  refine w_nil ?_
  refine q_then ?_
  refine w_seq ?_
  first | refine w_condD rfl (fun h1 => ?_) (fun h1 => ?_) | refine w_condN rfl (fun h1 => ?_) (fun h1 => ?_) | refine w_cond rfl (fun h1 => ?_) (fun h1 => ?_)
  · refine w_skip ?_
    refine q_then ?_
    refine w_seq ?_
    refine w_block ?_
    refine w_seq ?_
    refine w_region ?_
    have hk' : k < daysL.length := by simp only [daysL, List.length_cons, List.length_nil]; omega
    have hne := daysL_len hk'
    refine o_run rfl (e_val rfl (y_p rfl) ?_)
    refine o_run rfl (e_val rfl (y_ixA ty264 ty9 rfl rfl (by omega) (ld_fm1 (f := str) daysL hk')) ?_)
    refine o_run rfl (e_val rfl (y_p rfl) ?_)
    refine o_run rfl (e_val rfl (y_p rfl) ?_)
    refine w_nil ?_
    refine q_then ?_
    refine w_seq ?_
    refine w_seq ?_
    refine w_region ?_
    refine o_run rfl (e_val rfl (y_p rfl) ?_)
    refine o_run rfl (e_val rfl (y_p rfl) ?_)
    refine w_nil ?_
    refine q_then ?_
    first | refine w_condD rfl (fun h2 => ?_) (fun h2 => ?_) | refine w_condN rfl (fun h2 => ?_) (fun h2 => ?_) | refine w_cond rfl (fun h2 => ?_) (fun h2 => ?_)
    · refine w_region ?_
      refine o_run rfl (e_val rfl (y_p rfl) ?_)
      refine o_run rfl (e_val rfl (y_slS ty9 rfl rfl rfl (by omega)) ?_)
      refine o_run rfl (e_val rfl (y_p rfl) ?_)
      refine w_nil ?_
      refine q_then ?_
      refine w_seq ?_
      refine w_region ?_
      refine o_run rfl (e_val rfl (y_p rfl) ?_)
      refine o_run rfl (e_val rfl (y_p rfl) ?_)
      refine o_run rfl (e_val rfl (y_fa fo185_0 rfl) ?_)
      refine o_run rfl (e_val rfl (y_ld ty9 rfl rfl) ?_)
      refine o_run rfl (e_val rfl (y_lenS ty9 rfl) ?_)
      refine o_run rfl (e_val rfl (y_p rfl) ?_)
      refine o_run rfl (e_val rfl (y_lenS ty9 rfl) ?_)
      refine o_run rfl (e_val rfl (y_pe (.bool false) rfl (congrArg Value.bool (decide_eq_false (by simp only [List.length_nil]; omega)))) ?_)
      refine o_run rfl (e_val rfl (y_p rfl) ?_)
      refine g_no rfl rfl rfl rfl ?_
      refine g_no rfl rfl rfl rfl ?_
      refine g_no rfl rfl rfl rfl ?_
      refine g_no rfl rfl rfl rfl ?_
      refine g_no rfl rfl rfl rfl ?_
      refine g_no rfl rfl rfl rfl ?_
      refine g_no rfl rfl rfl rfl ?_
      refine g_no rfl rfl rfl rfl ?_
      refine g_no rfl rfl rfl rfl ?_
      refine o_run rfl (e_val rfl (y_p rfl) ?_)
      refine w_nil ?_
      refine q_then ?_
      refine w_condF rfl ?_
      refine w_skip ?_
      refine q_in ?_
      refine q_then ?_
      refine w_region ?_
      refine o_run rfl (e_val rfl (y_addI rfl rfl (by omega)) ?_)
      refine o_run rfl (e_val rfl (y_p rfl) ?_)
      refine w_nil ?_
      refine q_round (k + 1) (by omega) (by omega) ⟨rfl, rfl, rfl, rfl, trivial⟩ rfl rfl
    · refine w_skip ?_
      refine q_then ?_
      refine w_seq ?_
      refine w_region ?_
      refine o_run rfl (e_val rfl (y_p rfl) ?_)
      refine o_run rfl (e_val rfl (y_p rfl) ?_)
      refine o_run rfl (e_val rfl (y_fa fo185_0 rfl) ?_)
      refine o_run rfl (e_val rfl (y_ld ty9 rfl rfl) ?_)
      refine o_run rfl (e_val rfl (y_lenS ty9 rfl) ?_)
      refine o_run rfl (e_val rfl (y_p rfl) ?_)
      refine o_run rfl (e_val rfl (y_lenS ty9 rfl) ?_)
      refine o_run rfl (e_val rfl (y_pe (.bool false) rfl (congrArg Value.bool (decide_eq_false (by simp only [List.length_nil]; omega)))) ?_)
      refine o_run rfl (e_val rfl (y_p rfl) ?_)
      refine g_no rfl rfl rfl rfl ?_
      refine g_no rfl rfl rfl rfl ?_
      refine g_no rfl rfl rfl rfl ?_
      refine g_no rfl rfl rfl rfl ?_
      refine g_no rfl rfl rfl rfl ?_
      refine g_no rfl rfl rfl rfl ?_
      refine g_no rfl rfl rfl rfl ?_
      refine g_no rfl rfl rfl rfl ?_
      refine g_no rfl rfl rfl rfl ?_
      refine o_run rfl (e_val rfl (y_p rfl) ?_)
      refine w_nil ?_
      refine q_then ?_
      refine w_condF rfl ?_
      refine w_skip ?_
      refine q_in ?_
      refine q_then ?_
      refine w_region ?_
      refine o_run rfl (e_val rfl (y_addI rfl rfl (by omega)) ?_)
      refine o_run rfl (e_val rfl (y_p rfl) ?_)
      refine w_nil ?_
      refine q_round (k + 1) (by omega) (by omega) ⟨rfl, rfl, rfl, rfl, trivial⟩ rfl rfl
  · refine w_exit ?_
    refine q_thenE ?_
    refine q_thenE ?_
    refine q_inE ?_
    refine q_then ?_
    refine w_seq ?_
    refine w_region ?_
    refine o_run rfl (e_val rfl (y_p rfl) ?_)
    refine o_run rfl (e_val rfl (y_p rfl) ?_)
    refine o_run rfl (e_val rfl (y_fa fo185_1 rfl) ?_)
    refine o_run rfl (e_st ty4 rfl rfl rfl rfl rfl rfl ?_)
    refine w_nil ?_
    refine q_then ?_
    refine w_seq ?_
    refine w_region ?_
    refine o_run rfl (e_val rfl (y_p rfl) ?_)
    refine w_nil ?_
    refine q_then ?_
    refine w_ret ?_
    refine r_one rfl rfl ?_
    -- leaf 1
    exact ⟨rfl, rfl⟩

theorem c_clock0 (F : FH) (b : Nat) (q : Bool)  : Fn Tryz.prog 166 [.pointer (some ⟨b, 0, none⟩)] F [(b, .cells (List.toArray [str [], .bool q]) T185 (0, 0))] (fun r _ Γ' => r = int 0 ∧ Γ' = [(b, .cells (List.toArray [str [], .bool false]) T185 (0, 0))]) := by
  refine fn_walk Tryz.func166 (by kernel_rfl) rfl rfl rfl ?_
  intro w0
  simp only [numb, List.map_nil, List.map_cons, Nat.zero_add, Nat.reduceAdd, List.cons_append, List.nil_append]
  refine w_seq ?_
  refine w_region ?_
  refine o_run rfl (e_val rfl (y_p rfl) ?_)
  refine w_nil ?_
  refine q_then ?_
  refine w_seq ?_
  refine w_region ?_
  refine o_run rfl (e_val rfl (y_p rfl) ?_)
  refine o_run rfl (e_callS rfl rfl (c_number0 F b q 2 (by decide)) rfl (fun r1 Γ1 hR1 => ?_))
  obtain ⟨rfl, rfl⟩ := hR1
  refine o_run rfl (e_val rfl (y_p rfl) ?_)
  refine w_nil ?_
  refine q_then ?_
  refine w_seq ?_
  refine w_region ?_
  refine o_run rfl (e_val rfl (y_p rfl) ?_)
  refine o_run rfl (e_callS rfl rfl (c_need0 F b false _ (by decide)) rfl (fun r2 Γ2 hR2 => ?_))
  obtain ⟨rfl, rfl⟩ := hR2
  refine w_nil ?_
  refine q_then ?_
  refine w_seq ?_
  refine w_region ?_
  refine o_run rfl (e_val rfl (y_p rfl) ?_)
  refine o_run rfl (e_callS rfl rfl (c_number0 F b false 2 (by decide)) rfl (fun r3 Γ3 hR3 => ?_))
  obtain ⟨rfl, rfl⟩ := hR3
  refine o_run rfl (e_val rfl (y_p rfl) ?_)
  refine w_nil ?_
  refine q_then ?_
  refine w_seq ?_
  refine w_region ?_
  refine o_run rfl (e_val rfl (y_p rfl) ?_)
  refine o_run rfl (e_callS rfl rfl (c_need0 F b false _ (by decide)) rfl (fun r4 Γ4 hR4 => ?_))
  obtain ⟨rfl, rfl⟩ := hR4
  refine w_nil ?_
  refine q_then ?_
  refine w_seq ?_
  refine w_region ?_
  refine o_run rfl (e_val rfl (y_p rfl) ?_)
  refine o_run rfl (e_callS rfl rfl (c_number0 F b false 2 (by decide)) rfl (fun r5 Γ5 hR5 => ?_))
  obtain ⟨rfl, rfl⟩ := hR5
  refine o_run rfl (e_val rfl (y_p rfl) ?_)
  refine w_nil ?_
  refine q_then ?_
  refine w_seq ?_
  refine w_seq ?_
  refine w_region ?_
  refine o_run rfl (e_val rfl (y_p rfl) ?_)
  refine o_run rfl (e_val rfl (y_p (v := .bool false) rfl) ?_)
  refine o_run rfl (e_val rfl (y_p rfl) ?_)
  refine o_yes rfl rfl rfl (e_val rfl (y_p rfl) ?_)
  refine o_yes rfl rfl rfl (e_val rfl (y_p (v := .bool false) rfl) ?_)
  refine o_run rfl (e_val rfl (y_p rfl) ?_)
  refine o_run rfl (e_val rfl (y_p rfl) ?_)
  refine o_yes rfl rfl rfl (e_val rfl (y_p rfl) ?_)
  refine o_yes rfl rfl rfl (e_val rfl (y_p (v := .bool false) rfl) ?_)
  refine o_run rfl (e_val rfl (y_p rfl) ?_)
  refine w_nil ?_
  refine q_then ?_
  refine w_condF rfl ?_
  refine w_skip ?_
  refine q_then ?_
  refine w_seq ?_
  refine w_region ?_
  refine o_run rfl (e_val rfl (y_p rfl) ?_)
  refine o_run rfl (e_val rfl (y_mulI rfl rfl (by omega)) ?_)
  refine o_run rfl (e_val rfl (y_p rfl) ?_)
  refine o_run rfl (e_val rfl (y_mulI rfl rfl (by omega)) ?_)
  refine o_run rfl (e_val rfl (y_addI rfl rfl (by omega)) ?_)
  refine o_run rfl (e_val rfl (y_p rfl) ?_)
  refine o_run rfl (e_val rfl (y_min rfl rfl) ?_)
  refine o_run rfl (e_val rfl (y_addI rfl rfl (by omega)) ?_)
  refine o_run rfl (e_val rfl (y_p rfl) ?_)
  refine w_nil ?_
  refine q_then ?_
  refine w_ret ?_
  refine r_one rfl rfl ?_
  -- leaf 1
  exact ⟨rfl, rfl⟩

theorem c_Days0 (F : FH) (y d : Int) : FnV Tryz.prog 223 [int y, int 0, int d] F (int (-1)) := by
  refine fn_walk Tryz.func223 (by kernel_rfl) rfl rfl rfl ?_
  intro w0
  simp only [numb, List.map_nil, List.map_cons, Nat.zero_add, Nat.reduceAdd, List.cons_append, List.nil_append]
  refine w_seq ?_
  refine w_region ?_
  refine o_run rfl (e_val rfl (y_p rfl) ?_)
  refine w_nil ?_
  refine q_then ?_
  refine w_seq ?_
  refine w_seq ?_
  refine w_region ?_
  refine o_run rfl (e_val rfl (y_p rfl) ?_)
  refine o_run rfl (e_val rfl (y_p rfl) ?_)
  refine o_run rfl (e_val rfl (y_p rfl) ?_)
  first | refine PW.wayD (t := 17) rfl rfl (fun h1 => ?_) (fun h1 => ?_) | refine PW.way (t := 17) rfl rfl (fun h1 => ?_) (fun h1 => ?_)
  · refine g_no rfl rfl rfl rfl ?_
    refine g_no rfl rfl rfl rfl ?_
    refine o_run rfl (e_val rfl (y_p rfl) ?_)
    refine o_run rfl (e_val rfl (y_p rfl) ?_)
    refine g_no rfl rfl rfl rfl ?_
    refine g_no rfl rfl rfl rfl ?_
    refine o_run rfl (e_val rfl (y_p rfl) ?_)
    refine o_run rfl (e_val rfl (y_p rfl) ?_)
    refine g_no rfl rfl rfl rfl ?_
    refine g_no rfl rfl rfl rfl ?_
    refine o_run rfl (e_val rfl (y_p rfl) ?_)
    refine o_run rfl (e_val rfl (y_p rfl) ?_)
    refine g_no rfl rfl rfl rfl ?_
    refine g_no rfl rfl rfl rfl ?_
    refine o_run rfl (e_val rfl (y_p rfl) ?_)
    refine o_run rfl (e_val rfl (y_p rfl) ?_)
    refine g_no rfl rfl rfl rfl ?_
    refine g_no rfl rfl rfl rfl ?_
    refine o_run rfl (e_val rfl (y_p rfl) ?_)
    refine w_nil ?_
    refine q_then ?_
    refine w_condT rfl ?_
    refine w_seq ?_
    refine w_region ?_
    refine o_run rfl (e_val rfl (y_p rfl) ?_)
    refine w_nil ?_
    refine q_then ?_
    refine w_ret ?_
    refine q_thenR ?_
    refine r_one rfl rfl ?_
    -- leaf 1
    rfl
  · refine o_yes rfl rfl rfl (e_val rfl (y_p rfl) ?_)
    refine o_yes rfl rfl rfl (e_val rfl (y_p rfl) ?_)
    refine o_run rfl (e_val rfl (y_p rfl) ?_)
    refine o_run rfl (e_val rfl (y_p rfl) ?_)
    first | refine PW.wayD (t := 21) rfl rfl (fun h2 => ?_) (fun h2 => ?_) | refine PW.way (t := 21) rfl rfl (fun h2 => ?_) (fun h2 => ?_)
    · refine g_no rfl rfl rfl rfl ?_
      refine g_no rfl rfl rfl rfl ?_
      refine o_run rfl (e_val rfl (y_p rfl) ?_)
      refine o_run rfl (e_val rfl (y_p rfl) ?_)
      refine g_no rfl rfl rfl rfl ?_
      refine g_no rfl rfl rfl rfl ?_
      refine o_run rfl (e_val rfl (y_p rfl) ?_)
      refine o_run rfl (e_val rfl (y_p rfl) ?_)
      refine g_no rfl rfl rfl rfl ?_
      refine g_no rfl rfl rfl rfl ?_
      refine o_run rfl (e_val rfl (y_p rfl) ?_)
      refine o_run rfl (e_val rfl (y_p rfl) ?_)
      refine g_no rfl rfl rfl rfl ?_
      refine g_no rfl rfl rfl rfl ?_
      refine o_run rfl (e_val rfl (y_p rfl) ?_)
      refine w_nil ?_
      refine q_then ?_
      refine w_condT rfl ?_
      refine w_seq ?_
      refine w_region ?_
      refine o_run rfl (e_val rfl (y_p rfl) ?_)
      refine w_nil ?_
      refine q_then ?_
      refine w_ret ?_
      refine q_thenR ?_
      refine r_one rfl rfl ?_
      -- leaf 2
      rfl
    · refine o_yes rfl rfl rfl (e_val rfl (y_p rfl) ?_)
      refine o_yes rfl rfl rfl (e_val rfl (y_p (v := .bool true) rfl) ?_)
      refine o_run rfl (e_val rfl (y_p rfl) ?_)
      refine o_run rfl (e_val rfl (y_p rfl) ?_)
      refine g_no rfl rfl rfl rfl ?_
      refine g_no rfl rfl rfl rfl ?_
      refine o_run rfl (e_val rfl (y_p rfl) ?_)
      refine o_run rfl (e_val rfl (y_p rfl) ?_)
      refine g_no rfl rfl rfl rfl ?_
      refine g_no rfl rfl rfl rfl ?_
      refine o_run rfl (e_val rfl (y_p rfl) ?_)
      refine o_run rfl (e_val rfl (y_p rfl) ?_)
      refine g_no rfl rfl rfl rfl ?_
      refine g_no rfl rfl rfl rfl ?_
      refine o_run rfl (e_val rfl (y_p rfl) ?_)
      refine w_nil ?_
      refine q_then ?_
      refine w_condT rfl ?_
      refine w_seq ?_
      refine w_region ?_
      refine o_run rfl (e_val rfl (y_p rfl) ?_)
      refine w_nil ?_
      refine q_then ?_
      refine w_ret ?_
      refine q_thenR ?_
      refine r_one rfl rfl ?_
      -- leaf 3
      rfl

theorem c_second0 (F : FH) (b : Nat) (w y d c : Int) : Fn Tryz.prog 167 [.pointer (some ⟨b, 0, none⟩), int w, int y, int 0, int d, int c] F [(b, .cells (List.toArray [str [], .bool false]) T185 (0, 0))] (fun r _ Γ' => r = .tuple #[int 0, .bool false] ∧ Γ' = [(b, .cells (List.toArray [str [], .bool false]) T185 (0, 0))]) := by
  refine fn_walk Tryz.func167 (by kernel_rfl) rfl rfl rfl ?_
  intro w0
  simp only [numb, List.map_nil, List.map_cons, Nat.zero_add, Nat.reduceAdd, List.cons_append, List.nil_append]
  refine w_seq ?_
  refine w_region ?_
  refine o_run rfl (e_val rfl (y_p rfl) ?_)
  refine o_run rfl (e_val rfl (y_p rfl) ?_)
  refine w_nil ?_
  refine q_then ?_
  refine w_seq ?_
  refine w_region ?_
  refine o_run rfl (e_val rfl (y_p rfl) ?_)
  refine o_run rfl (e_val rfl (y_p rfl) ?_)
  refine o_run rfl (e_val rfl (y_p rfl) ?_)
  refine o_run rfl (e_callV rfl rfl (c_Days0 _ _ _) rfl ?_)
  refine o_run rfl (e_val rfl (y_p rfl) ?_)
  refine w_nil ?_
  refine q_then ?_
  refine w_seq ?_
  refine w_seq ?_
  refine w_region ?_
  refine o_run rfl (e_val rfl (y_p rfl) ?_)
  refine o_run rfl (e_val rfl (y_p rfl) ?_)
  refine o_run rfl (e_val rfl (y_fa fo185_1 rfl) ?_)
  refine o_run rfl (e_val rfl (y_ld ty4 rfl rfl) ?_)
  refine o_run rfl (e_val rfl (y_p rfl) ?_)
  refine o_run rfl (e_val rfl (y_p rfl) ?_)
  refine g_no rfl rfl rfl rfl ?_
  refine g_no rfl rfl rfl rfl ?_
  refine g_no rfl rfl rfl rfl ?_
  refine g_no rfl rfl rfl rfl ?_
  refine g_no rfl rfl rfl rfl ?_
  refine o_run rfl (e_val rfl (y_p rfl) ?_)
  refine o_run rfl (e_val rfl (y_p rfl) ?_)
  refine g_no rfl rfl rfl rfl ?_
  refine g_no rfl rfl rfl rfl ?_
  refine o_run rfl (e_val rfl (y_p rfl) ?_)
  refine o_run rfl (e_val rfl (y_p rfl) ?_)
  refine g_no rfl rfl rfl rfl ?_
  refine g_no rfl rfl rfl rfl ?_
  refine g_no rfl rfl rfl rfl ?_
  refine g_no rfl rfl rfl rfl ?_
  refine g_no rfl rfl rfl rfl ?_
  refine o_run rfl (e_val rfl (y_p rfl) ?_)
  refine w_nil ?_
  refine q_then ?_
  refine w_condT rfl ?_
  refine w_seq ?_
  refine w_region ?_
  refine o_run rfl (e_val rfl (y_p rfl) ?_)
  refine o_run rfl (e_val rfl (y_p rfl) ?_)
  refine w_nil ?_
  refine q_then ?_
  refine w_ret ?_
  refine q_thenR ?_
  refine r_many (rs := [.tmp 12, .tmp 13]) rfl rfl ?_
  -- leaf 1
  exact ⟨rfl, rfl⟩

theorem c_fixed0 (F : FH) (b : Nat) (q : Bool)  : Fn Tryz.prog 108 [.pointer (some ⟨b, 0, none⟩)] F [(b, .cells (List.toArray [str [], .bool q]) T185 (0, 0))] (fun r _ Γ' => r = .tuple #[int 0, .bool false] ∧ Γ' = [(b, .cells (List.toArray [str [], .bool false]) T185 (0, 0))]) := by
  refine fn_walk Tryz.func108 (by kernel_rfl) rfl rfl rfl ?_
  intro w0
  simp only [numb, List.map_nil, List.map_cons, Nat.zero_add, Nat.reduceAdd, List.cons_append, List.nil_append]
  refine w_seq ?_
  refine w_region ?_
  refine o_run rfl (e_val rfl (y_p rfl) ?_)
  refine o_run rfl (e_val rfl (y_p rfl) ?_)
  refine w_nil ?_
  refine q_then ?_
  refine w_seq ?_
  refine w_region ?_
  refine o_run rfl (e_val rfl (y_p rfl) ?_)
  refine o_run rfl (e_callS rfl rfl (c_day0 F b q false) rfl (fun r1 Γ1 hR1 => ?_))
  obtain ⟨rfl, rfl⟩ := hR1
  refine o_run rfl (e_val rfl (y_p rfl) ?_)
  refine w_nil ?_
  refine q_then ?_
  refine w_seq ?_
  refine w_region ?_
  refine o_run rfl (e_val rfl (y_p rfl) ?_)
  refine o_run rfl (e_callS rfl rfl (c_need0 F b false _ (by decide)) rfl (fun r2 Γ2 hR2 => ?_))
  obtain ⟨rfl, rfl⟩ := hR2
  refine w_nil ?_
  refine q_then ?_
  refine w_seq ?_
  refine w_region ?_
  refine o_run rfl (e_val rfl (y_p rfl) ?_)
  refine o_run rfl (e_callS rfl rfl (c_number0 F b false 2 (by decide)) rfl (fun r3 Γ3 hR3 => ?_))
  obtain ⟨rfl, rfl⟩ := hR3
  refine o_run rfl (e_val rfl (y_p rfl) ?_)
  refine w_nil ?_
  refine q_then ?_
  refine w_seq ?_
  refine w_region ?_
  refine o_run rfl (e_val rfl (y_p rfl) ?_)
  refine o_run rfl (e_callS rfl rfl (c_need0 F b false _ (by decide)) rfl (fun r4 Γ4 hR4 => ?_))
  obtain ⟨rfl, rfl⟩ := hR4
  refine w_nil ?_
  refine q_then ?_
  refine w_seq ?_
  refine w_region ?_
  refine o_run rfl (e_val rfl (y_p rfl) ?_)
  refine o_run rfl (e_callS rfl rfl (c_month0 F b false) rfl (fun r5 Γ5 hR5 => ?_))
  obtain ⟨rfl, rfl⟩ := hR5
  refine o_run rfl (e_val rfl (y_p rfl) ?_)
  refine w_nil ?_
  refine q_then ?_
  refine w_seq ?_
  refine w_region ?_
  refine o_run rfl (e_val rfl (y_p rfl) ?_)
  refine o_run rfl (e_callS rfl rfl (c_need0 F b false _ (by decide)) rfl (fun r6 Γ6 hR6 => ?_))
  obtain ⟨rfl, rfl⟩ := hR6
  refine w_nil ?_
  refine q_then ?_
  refine w_seq ?_
  refine w_region ?_
  refine o_run rfl (e_val rfl (y_p rfl) ?_)
  refine o_run rfl (e_callS rfl rfl (c_number0 F b false 4 (by decide)) rfl (fun r7 Γ7 hR7 => ?_))
  obtain ⟨rfl, rfl⟩ := hR7
  refine o_run rfl (e_val rfl (y_p rfl) ?_)
  refine w_nil ?_
  refine q_then ?_
  refine w_seq ?_
  refine w_region ?_
  refine o_run rfl (e_val rfl (y_p rfl) ?_)
  refine o_run rfl (e_callS rfl rfl (c_need0 F b false _ (by decide)) rfl (fun r8 Γ8 hR8 => ?_))
  obtain ⟨rfl, rfl⟩ := hR8
  refine w_nil ?_
  refine q_then ?_
  refine w_seq ?_
  refine w_region ?_
  refine o_run rfl (e_val rfl (y_p rfl) ?_)
  refine o_run rfl (e_callS rfl rfl (c_clock0 F b false) rfl (fun r9 Γ9 hR9 => ?_))
  obtain ⟨rfl, rfl⟩ := hR9
  refine o_run rfl (e_val rfl (y_p rfl) ?_)
  refine w_nil ?_
  refine q_then ?_
  refine w_seq ?_
  refine w_region ?_
  refine o_run rfl (e_val rfl (y_p rfl) ?_)
  refine o_run rfl (e_callS rfl rfl (c_need0 F b false _ (by decide)) rfl (fun r10 Γ10 hR10 => ?_))
  obtain ⟨rfl, rfl⟩ := hR10
  refine w_nil ?_
  refine q_then ?_
  refine w_seq ?_
  refine w_region ?_
  refine o_run rfl (e_val rfl (y_p rfl) ?_)
  refine o_run rfl (e_val rfl (y_p rfl) ?_)
  refine o_run rfl (e_val rfl (y_p rfl) ?_)
  refine o_run rfl (e_val rfl (y_p rfl) ?_)
  refine o_run rfl (e_val rfl (y_p rfl) ?_)
  refine o_run rfl (e_val rfl (y_p rfl) ?_)
  refine o_run rfl (e_callS rfl rfl (c_second0 F b _ _ _ _) rfl (fun r11 Γ11 hR11 => ?_))
  obtain ⟨rfl, rfl⟩ := hR11
  refine o_run rfl (e_val rfl (y_p rfl) ?_)
  refine o_run rfl (e_val rfl (y_p rfl) ?_)
  refine o_run rfl (e_val rfl (y_p rfl) ?_)
  refine o_run rfl (e_val rfl (y_p rfl) ?_)
  refine w_nil ?_
  refine q_then ?_
  refine w_ret ?_
  refine r_many (rs := [.tmp 2, .tmp 3]) rfl rfl ?_
  -- leaf 1
  exact ⟨rfl, rfl⟩

theorem c_old0 (F : FH) (b : Nat) (q : Bool)  : Fn Tryz.prog 109 [.pointer (some ⟨b, 0, none⟩)] F [(b, .cells (List.toArray [str [], .bool q]) T185 (0, 0))] (fun r _ Γ' => r = .tuple #[int 0, .bool false] ∧ Γ' = [(b, .cells (List.toArray [str [], .bool false]) T185 (0, 0))]) := by
  refine fn_walk Tryz.func109 (by kernel_rfl) rfl rfl rfl ?_
  intro w0
  simp only [numb, List.map_nil, List.map_cons, Nat.zero_add, Nat.reduceAdd, List.cons_append, List.nil_append]
  refine w_seq ?_
  refine w_region ?_
  refine o_run rfl (e_val rfl (y_p rfl) ?_)
  refine o_run rfl (e_val rfl (y_p rfl) ?_)
  refine w_nil ?_
  refine q_then ?_
  refine w_seq ?_
  refine w_region ?_
  refine o_run rfl (e_val rfl (y_p rfl) ?_)
  refine o_run rfl (e_callS rfl rfl (c_day0 F b q true) rfl (fun r1 Γ1 hR1 => ?_))
  obtain ⟨rfl, rfl⟩ := hR1
  refine o_run rfl (e_val rfl (y_p rfl) ?_)
  refine w_nil ?_
  refine q_then ?_
  refine w_seq ?_
  refine w_region ?_
  refine o_run rfl (e_val rfl (y_p rfl) ?_)
  refine o_run rfl (e_callS rfl rfl (c_need0 F b false _ (by decide)) rfl (fun r2 Γ2 hR2 => ?_))
  obtain ⟨rfl, rfl⟩ := hR2
  refine w_nil ?_
  refine q_then ?_
  refine w_seq ?_
  refine w_region ?_
  refine o_run rfl (e_val rfl (y_p rfl) ?_)
  refine o_run rfl (e_callS rfl rfl (c_number0 F b false 2 (by decide)) rfl (fun r3 Γ3 hR3 => ?_))
  obtain ⟨rfl, rfl⟩ := hR3
  refine o_run rfl (e_val rfl (y_p rfl) ?_)
  refine w_nil ?_
  refine q_then ?_
  refine w_seq ?_
  refine w_region ?_
  refine o_run rfl (e_val rfl (y_p rfl) ?_)
  refine o_run rfl (e_callS rfl rfl (c_need0 F b false _ (by decide)) rfl (fun r4 Γ4 hR4 => ?_))
  obtain ⟨rfl, rfl⟩ := hR4
  refine w_nil ?_
  refine q_then ?_
  refine w_seq ?_
  refine w_region ?_
  refine o_run rfl (e_val rfl (y_p rfl) ?_)
  refine o_run rfl (e_callS rfl rfl (c_month0 F b false) rfl (fun r5 Γ5 hR5 => ?_))
  obtain ⟨rfl, rfl⟩ := hR5
  refine o_run rfl (e_val rfl (y_p rfl) ?_)
  refine w_nil ?_
  refine q_then ?_
  refine w_seq ?_
  refine w_region ?_
  refine o_run rfl (e_val rfl (y_p rfl) ?_)
  refine o_run rfl (e_callS rfl rfl (c_need0 F b false _ (by decide)) rfl (fun r6 Γ6 hR6 => ?_))
  obtain ⟨rfl, rfl⟩ := hR6
  refine w_nil ?_
  refine q_then ?_
  refine w_seq ?_
  refine w_region ?_
  refine o_run rfl (e_val rfl (y_p rfl) ?_)
  refine o_run rfl (e_callS rfl rfl (c_number0 F b false 2 (by decide)) rfl (fun r7 Γ7 hR7 => ?_))
  obtain ⟨rfl, rfl⟩ := hR7
  refine o_run rfl (e_val rfl (y_p rfl) ?_)
  refine w_nil ?_
  refine q_then ?_
  refine w_seq ?_
  refine w_region ?_
  refine o_run rfl (e_val rfl (y_p rfl) ?_)
  refine o_run rfl (e_callS rfl rfl (c_need0 F b false _ (by decide)) rfl (fun r8 Γ8 hR8 => ?_))
  obtain ⟨rfl, rfl⟩ := hR8
  refine w_nil ?_
  refine q_then ?_
  refine w_seq ?_
  refine w_region ?_
  refine o_run rfl (e_val rfl (y_p rfl) ?_)
  refine o_run rfl (e_callS rfl rfl (c_clock0 F b false) rfl (fun r9 Γ9 hR9 => ?_))
  obtain ⟨rfl, rfl⟩ := hR9
  refine o_run rfl (e_val rfl (y_p rfl) ?_)
  refine w_nil ?_
  refine q_then ?_
  refine w_seq ?_
  refine w_region ?_
  refine o_run rfl (e_val rfl (y_p rfl) ?_)
  refine o_run rfl (e_callS rfl rfl (c_need0 F b false _ (by decide)) rfl (fun r10 Γ10 hR10 => ?_))
  obtain ⟨rfl, rfl⟩ := hR10
  refine w_nil ?_
  refine q_then ?_
  refine w_seq ?_
  refine w_seq ?_
  refine w_region ?_
  refine o_run rfl (e_val rfl (y_p rfl) ?_)
  refine o_run rfl (e_val rfl (y_p (v := .bool false) rfl) ?_)
  refine w_nil ?_
  refine q_then ?_
  refine w_condF rfl ?_
  refine w_region ?_
  refine o_run rfl (e_val rfl (y_p rfl) ?_)
  refine o_run rfl (e_val rfl (y_addI rfl rfl (by omega)) ?_)
  refine o_run rfl (e_val rfl (y_p rfl) ?_)
  refine w_nil ?_
  refine q_then ?_
  refine w_seq ?_
  refine w_region ?_
  refine o_run rfl (e_val rfl (y_p rfl) ?_)
  refine o_run rfl (e_val rfl (y_p rfl) ?_)
  refine o_run rfl (e_val rfl (y_p rfl) ?_)
  refine o_run rfl (e_val rfl (y_p rfl) ?_)
  refine o_run rfl (e_val rfl (y_p rfl) ?_)
  refine o_run rfl (e_val rfl (y_p rfl) ?_)
  refine o_run rfl (e_callS rfl rfl (c_second0 F b _ _ _ _) rfl (fun r14 Γ14 hR14 => ?_))
  obtain ⟨rfl, rfl⟩ := hR14
  refine o_run rfl (e_val rfl (y_p rfl) ?_)
  refine o_run rfl (e_val rfl (y_p rfl) ?_)
  refine o_run rfl (e_val rfl (y_p rfl) ?_)
  refine o_run rfl (e_val rfl (y_p rfl) ?_)
  refine w_nil ?_
  refine q_then ?_
  refine w_ret ?_
  refine r_many (rs := [.tmp 2, .tmp 3]) rfl rfl ?_
  -- leaf 1
  exact ⟨rfl, rfl⟩

theorem c_plain0 (F : FH) (b : Nat) (q : Bool)  : Fn Tryz.prog 110 [.pointer (some ⟨b, 0, none⟩)] F [(b, .cells (List.toArray [str [], .bool q]) T185 (0, 0))] (fun r _ Γ' => r = .tuple #[int 0, .bool false] ∧ Γ' = [(b, .cells (List.toArray [str [], .bool false]) T185 (0, 0))]) := by
  refine fn_walk Tryz.func110 (by kernel_rfl) rfl rfl rfl ?_
  intro w0
  simp only [numb, List.map_nil, List.map_cons, Nat.zero_add, Nat.reduceAdd, List.cons_append, List.nil_append]
  refine w_seq ?_
  refine w_region ?_
  refine o_run rfl (e_val rfl (y_p rfl) ?_)
  refine o_run rfl (e_val rfl (y_p rfl) ?_)
  refine w_nil ?_
  refine q_then ?_
  refine w_seq ?_
  refine w_region ?_
  refine o_run rfl (e_val rfl (y_p rfl) ?_)
  refine o_run rfl (e_callS rfl rfl (c_day0 F b q false) rfl (fun r1 Γ1 hR1 => ?_))
  obtain ⟨rfl, rfl⟩ := hR1
  refine o_run rfl (e_val rfl (y_p rfl) ?_)
  refine w_nil ?_
  refine q_then ?_
  refine w_seq ?_
  refine w_region ?_
  refine o_run rfl (e_val rfl (y_p rfl) ?_)
  refine o_run rfl (e_callS rfl rfl (c_need0 F b false _ (by decide)) rfl (fun r2 Γ2 hR2 => ?_))
  obtain ⟨rfl, rfl⟩ := hR2
  refine w_nil ?_
  refine q_then ?_
  refine w_seq ?_
  refine w_region ?_
  refine o_run rfl (e_val rfl (y_p rfl) ?_)
  refine o_run rfl (e_callS rfl rfl (c_month0 F b false) rfl (fun r3 Γ3 hR3 => ?_))
  obtain ⟨rfl, rfl⟩ := hR3
  refine o_run rfl (e_val rfl (y_p rfl) ?_)
  refine w_nil ?_
  refine q_then ?_
  refine w_seq ?_
  refine w_region ?_
  refine o_run rfl (e_val rfl (y_p rfl) ?_)
  refine o_run rfl (e_callS rfl rfl (c_need0 F b false _ (by decide)) rfl (fun r4 Γ4 hR4 => ?_))
  obtain ⟨rfl, rfl⟩ := hR4
  refine w_nil ?_
  refine q_then ?_
  refine w_seq ?_
  refine w_region ?_
  refine o_run rfl (e_val rfl (y_p rfl) ?_)
  refine w_nil ?_
  refine q_then ?_
  refine w_seq ?_
  refine w_seq ?_
  refine w_region ?_
  refine o_run rfl (e_val rfl (y_p rfl) ?_)
  refine o_run rfl (e_val rfl (y_p rfl) ?_)
  refine o_run rfl (e_val rfl (y_fa fo185_0 rfl) ?_)
  refine o_run rfl (e_val rfl (y_ld ty9 rfl rfl) ?_)
  refine o_run rfl (e_val rfl (y_lenS ty9 rfl) ?_)
  refine o_run rfl (e_val rfl (y_p (v := .bool false) rfl) ?_)
  refine o_run rfl (e_val rfl (y_p rfl) ?_)
  refine g_no rfl rfl rfl rfl ?_
  refine g_no rfl rfl rfl rfl ?_
  refine g_no rfl rfl rfl rfl ?_
  refine g_no rfl rfl rfl rfl ?_
  refine g_no rfl rfl rfl rfl ?_
  refine g_no rfl rfl rfl rfl ?_
  refine o_run rfl (e_val rfl (y_p rfl) ?_)
  refine w_nil ?_
  refine q_then ?_
  refine w_condF rfl ?_
  refine w_skip ?_
  refine q_then ?_
  refine w_seq ?_
  refine w_region ?_
  refine o_run rfl (e_val rfl (y_p rfl) ?_)
  refine o_run rfl (e_val rfl (y_p rfl) ?_)
  refine o_run rfl (e_callS rfl rfl (c_number0 F b false 2 (by decide)) rfl (fun r9 Γ9 hR9 => ?_))
  obtain ⟨rfl, rfl⟩ := hR9
  refine o_run rfl (e_val rfl (y_p rfl) ?_)
  refine w_nil ?_
  refine q_then ?_
  refine w_seq ?_
  refine w_region ?_
  refine o_run rfl (e_val rfl (y_p rfl) ?_)
  refine o_run rfl (e_callS rfl rfl (c_need0 F b false _ (by decide)) rfl (fun r10 Γ10 hR10 => ?_))
  obtain ⟨rfl, rfl⟩ := hR10
  refine w_nil ?_
  refine q_then ?_
  refine w_seq ?_
  refine w_region ?_
  refine o_run rfl (e_val rfl (y_p rfl) ?_)
  refine o_run rfl (e_callS rfl rfl (c_clock0 F b false) rfl (fun r11 Γ11 hR11 => ?_))
  obtain ⟨rfl, rfl⟩ := hR11
  refine o_run rfl (e_val rfl (y_p rfl) ?_)
  refine w_nil ?_
  refine q_then ?_
  refine w_seq ?_
  refine w_region ?_
  refine o_run rfl (e_val rfl (y_p rfl) ?_)
  refine o_run rfl (e_callS rfl rfl (c_need0 F b false _ (by decide)) rfl (fun r12 Γ12 hR12 => ?_))
  obtain ⟨rfl, rfl⟩ := hR12
  refine w_nil ?_
  refine q_then ?_
  refine w_seq ?_
  refine w_region ?_
  refine o_run rfl (e_val rfl (y_p rfl) ?_)
  refine o_run rfl (e_callS rfl rfl (c_number0 F b false 4 (by decide)) rfl (fun r13 Γ13 hR13 => ?_))
  obtain ⟨rfl, rfl⟩ := hR13
  refine o_run rfl (e_val rfl (y_p rfl) ?_)
  refine w_nil ?_
  refine q_then ?_
  refine w_seq ?_
  refine w_region ?_
  refine o_run rfl (e_val rfl (y_p rfl) ?_)
  refine o_run rfl (e_val rfl (y_p rfl) ?_)
  refine o_run rfl (e_val rfl (y_p rfl) ?_)
  refine o_run rfl (e_val rfl (y_p rfl) ?_)
  refine o_run rfl (e_val rfl (y_p rfl) ?_)
  refine o_run rfl (e_val rfl (y_p rfl) ?_)
  refine o_run rfl (e_callS rfl rfl (c_second0 F b _ _ _ _) rfl (fun r14 Γ14 hR14 => ?_))
  obtain ⟨rfl, rfl⟩ := hR14
  refine o_run rfl (e_val rfl (y_p rfl) ?_)
  refine o_run rfl (e_val rfl (y_p rfl) ?_)
  refine o_run rfl (e_val rfl (y_p rfl) ?_)
  refine o_run rfl (e_val rfl (y_p rfl) ?_)
  refine w_nil ?_
  refine q_then ?_
  refine w_ret ?_
  refine r_many (rs := [.tmp 2, .tmp 3]) rfl rfl ?_
  -- leaf 1
  exact ⟨rfl, rfl⟩


def datesF : List Nat := [108, 109, 110]
def fnV (f : Nat) : Value := .func (.func f) #[] #[]
theorem c_dates0 (F : FH) (b : Nat) (f : Nat) (hf : f ∈ datesF) : Fn Tryz.prog f [.pointer (some ⟨b, 0, none⟩)] F [(b, .cells (List.toArray [str [], .bool true]) T185 (0, 0))] (fun r _ Γ' => r = .tuple #[int 0, .bool false] ∧ Γ' = [(b, .cells (List.toArray [str [], .bool false]) T185 (0, 0))]) := by
  simp only [datesF, List.mem_cons, List.not_mem_nil, or_false] at hf
  rcases hf with rfl | rfl | rfl
  · exact c_fixed0 F b true
  · exact c_old0 F b true
  · exact c_plain0 F b true

theorem c_Date0 (F : FH) : FnV Tryz.prog 57 [str []] F (.tuple #[int 0, .bool false]) := by
  refine fn_walk Tryz.func57 (by kernel_rfl) rfl rfl rfl ?_
  intro w0
  simp only [numb, List.map_nil, List.map_cons, Nat.zero_add, Nat.reduceAdd, List.cons_append, List.nil_append]
  refine w_seq ?_
  refine w_region ?_
  refine o_run rfl (e_val rfl (y_p rfl) ?_)
  refine o_run rfl (e_val rfl (y_p rfl) ?_)
  refine w_nil ?_
  refine q_then ?_
  refine w_seq ?_
  refine w_seq ?_
  refine w_region ?_
  refine o_run rfl (e_val rfl (y_buildA ty182 ty181 rfl rfl rfl) ?_)
  refine o_run rfl (e_val rfl (y_p rfl) ?_)
  refine w_nil ?_
  refine q_then ?_
  refine w_block ?_
  refine w_loop (T := Nat) (fun k => ([(0, str []), (8, .agg (List.toArray (datesF.flatMap fun f => [fnV f]))), (9, int k)], F, [])) (fun k => k ≤ 3) (fun k => 3 - k) 0 (by omega) (by repeat (first | exact trivial | refine ⟨rfl, ?_⟩)) rfl rfl ?_
  rintro k hk
  dsimp only at hk ⊢
  refine w_seq ?_
  refine w_region ?_
  refine o_run rfl (e_val rfl (y_p rfl) ?_)
  refine w_nil ?_
  refine q_then ?_
  refine w_seq ?_
  first | refine w_condD rfl (fun h1 => ?_) (fun h1 => ?_) | refine w_condN rfl (fun h1 => ?_) (fun h1 => ?_) | refine w_cond rfl (fun h1 => ?_) (fun h1 => ?_)
  · refine w_skip ?_
    refine q_then ?_
    refine w_seq ?_
    refine w_block ?_
    refine w_seq ?_
    refine w_region ?_
    have hk' : k < datesF.length := by simp only [datesF, List.length_cons, List.length_nil]; omega
    refine o_run rfl (e_val rfl (y_ixA ty182 ty181 rfl rfl (by omega) (ld_fm1 (f := fnV) datesF hk')) ?_)
    refine o_run rfl (e_val rfl (y_p rfl) ?_)
    refine w_nil ?_
    refine q_then ?_
    refine w_seq ?_
    refine w_region ?_
    refine o_run rfl (e_val rfl (y_p rfl) ?_)
    refine o_run rfl (e_val rfl (y_p rfl) ?_)
    refine o_run rfl (e_val rfl (y_build pl185 rfl rfl) ?_)
    refine o_run rfl (e_box rfl rfl rfl (fun bk => ?_))
    refine o_run rfl (e_callK (Γ2 := []) rfl rfl (c_dates0 F bk datesF[k] (List.getElem_mem hk')) (by exact List.Perm.refl _) rfl (fun r4 Γ4 hR4 => ?_))
    obtain ⟨rfl, rfl⟩ := hR4
    refine o_run rfl (e_val rfl (y_p rfl) ?_)
    refine o_run rfl (e_val rfl (y_p rfl) ?_)
    refine o_run rfl (e_val rfl (y_p rfl) ?_)
    refine o_run rfl (e_val rfl (y_p rfl) ?_)
    refine o_run rfl (e_val rfl (y_p rfl) ?_)
    refine w_nil ?_
    refine q_then ?_
    refine w_seq ?_
    refine w_region ?_
    refine o_run rfl (e_val rfl (y_p rfl) ?_)
    refine w_nil ?_
    refine q_then ?_
    refine w_condF rfl ?_
    refine w_skip ?_
    refine q_in ?_
    refine q_then ?_
    refine w_region ?_
    refine o_run rfl (e_val rfl (y_addI rfl rfl (by omega)) ?_)
    refine o_run rfl (e_val rfl (y_p rfl) ?_)
    refine w_nil ?_
    refine PW.clear ?_
    refine q_round (k + 1) (by omega) (by omega) ⟨rfl, rfl, rfl, trivial⟩ rfl rfl
  · refine w_exit ?_
    refine q_thenE ?_
    refine q_thenE ?_
    refine q_inE ?_
    refine q_then ?_
    refine w_seq ?_
    refine w_region ?_
    refine o_run rfl (e_val rfl (y_p rfl) ?_)
    refine o_run rfl (e_val rfl (y_p rfl) ?_)
    refine w_nil ?_
    refine q_then ?_
    refine w_ret ?_
    refine PW.clear ?_
    refine r_many (rs := [.tmp 2, .tmp 3]) rfl rfl ?_
    -- leaf 1
    rfl

theorem c_dated0 (F : FH) (v : Value) (hv : SlAt F encF v []) (s : List UInt8) (hs : s.length ≤ 1000) : FnV Tryz.prog 52 [v, str s] F (.agg #[int 0, .bool false, .bool false]) := by
  refine fn_walk Tryz.func52 (by kernel_rfl) rfl rfl rfl ?_
  intro w0
  simp only [numb, List.map_nil, List.map_cons, Nat.zero_add, Nat.reduceAdd, List.cons_append, List.nil_append]
  refine w_seq ?_
  refine w_region ?_
  refine o_run rfl (e_alloc ty112 rfl rfl (fun b4 => ?_))
  refine w_nil ?_
  refine q_then ?_
  refine w_seq ?_
  refine w_region ?_
  refine o_run rfl (e_val rfl (y_p rfl) ?_)
  refine o_run rfl (e_val rfl (y_p rfl) ?_)
  refine o_run rfl (e_callV rfl rfl (c_Get _ v [] s hv FsOk.nil (by omega)) rfl ?_)
  refine o_run rfl (e_val rfl (y_p rfl) ?_)
  refine o_run rfl (e_val rfl (y_p rfl) ?_)
  refine o_run rfl (e_val rfl (y_p rfl) ?_)
  refine o_run rfl (e_val rfl (y_p rfl) ?_)
  refine o_run rfl (e_val rfl (y_p rfl) ?_)
  refine w_nil ?_
  refine q_then ?_
  refine w_seq ?_
  refine w_region ?_
  refine o_run rfl (e_val rfl (y_p rfl) ?_)
  refine o_run rfl (e_callV rfl rfl (c_Date0 _) rfl ?_)
  refine o_run rfl (e_val rfl (y_p rfl) ?_)
  refine o_run rfl (e_val rfl (y_p rfl) ?_)
  refine o_run rfl (e_val rfl (y_p rfl) ?_)
  refine o_run rfl (e_val rfl (y_p rfl) ?_)
  refine o_run rfl (e_val rfl (y_p rfl) ?_)
  refine w_nil ?_
  refine q_then ?_
  refine w_seq ?_
  refine w_seq ?_
  refine w_region ?_
  refine o_run rfl (e_val rfl (y_p rfl) ?_)
  refine o_run rfl (e_val rfl (y_p (v := .bool true) rfl) ?_)
  refine w_nil ?_
  refine q_then ?_
  refine w_condT rfl ?_
  refine w_seq ?_
  refine w_region ?_
  refine o_run rfl (e_val rfl (y_build pl112 rfl rfl) ?_)
  refine o_run rfl (e_st ty112 rfl rfl rfl rfl rfl rfl ?_)
  refine w_nil ?_
  refine q_then ?_
  refine w_ret ?_
  refine q_thenR ?_
  refine r_cell1 [] rfl ty112 rfl rfl ?_
  -- leaf 1
  rfl

end Go.SL
