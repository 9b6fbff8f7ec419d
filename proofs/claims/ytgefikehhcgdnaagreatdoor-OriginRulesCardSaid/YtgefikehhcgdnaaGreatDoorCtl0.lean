import Derived.Test.YtgefikehhcgdnaaGreatDoorDate0

/- Controls and metadata of no fields: contracts. No condition. -/
namespace Go.SL
open Go.Proofs
set_option maxRecDepth 10000
theorem part_bool {P : Program} {T : TypeId} {sz by' : Nat} {z : Value} (h : Ty P T .bool sz by' z) {c : Array Value} {i : Nat} {v : Value} (hv : c[i]? = some v) (w : World) : (part T c i).run P w = .ok v w := by
  have := h.u
  simp [part, isAgg, underlying, this, hv]
theorem eqIn3 {P : Program} (q : Nat) {t : TypeId} {k : IntKind} {f0 f1 f2 : Field} {s0 s1 s2 b0 b1 b2 : Nat} {z0 z1 z2 : Value} {a : Int} {b c : Bool} (hu : P.underlying t = some (.struct #[f0, f1, f2]))
    (h0 : Ty P f0.type (.int k) s0 b0 z0) (h1 : Ty P f1.type .bool s1 b1 z1) (h2 : Ty P f2.type .bool s2 b2 z2) (hn : (f0.name ≠ "_" ∧ f1.name ≠ "_" ∧ f2.name ≠ "_") ∧ f0.offset = 0 ∧ f1.offset = 1 ∧ f2.offset = 2) (hs : P.stoodInHeld t = false) (w : World) :
    (Op.equalIn (q + 1 + 1) t (.agg (List.toArray [.int k a, .bool b, .bool c])) (.agg (List.toArray [.int k a, .bool b, .bool c]))).run P w = .ok true w := by
  obtain ⟨⟨n0, n1, n2⟩, o0, o1, o2⟩ := hn
  have e0 := fun a b w => eqIn_int (P := P) q h0.u a b w
  have e1 := fun a b w => eqIn_bool (P := P) q h1.u a b w
  have e2 := fun a b w => eqIn_bool (P := P) q h2.u a b w
  have p0 := part_int h0 (v := .int k a) (c := (List.toArray [.int k a, .bool b, .bool c])) (i := 0) rfl w
  have p1 := part_bool h1 (v := .bool b) (c := (List.toArray [.int k a, .bool b, .bool c])) (i := 1) rfl w
  have p2 := part_bool h2 (v := .bool c) (c := (List.toArray [.int k a, .bool b, .bool c])) (i := 2) rfl w
  generalize hq : q + 1 = r at *
  unfold Op.equalIn
  simp only [Sem.run_bind, underlying, run_program, Result.andThen_ok, hu, Sem.run_pure, hs, Bool.false_eq_true, if_false]
  simp [n0, n1, n2, o0, o1, o2, p0, p1, p2, e0, e1, e2]
/-- Two structs of a number and two Bools, alike. -/
theorem y_ne3 {P : Program} {n : Nat} {ρ : Regs} {F : FH} {Γ : Blks} {t u ty : TypeId} {x y : Operand} {a : Int} {b c : Bool} {k : IntKind} {f0 f1 f2 : Field} {s0 s1 s2 b0 b1 b2 : Nat} {z0 z1 z2 : Value} (hu : P.underlying t = some (.struct #[f0, f1, f2]))
    (h0 : Ty P f0.type (.int k) s0 b0 z0) (h1 : Ty P f1.type .bool s1 b1 z1) (h2 : Ty P f2.type .bool s2 b2 z2) (hn : (f0.name ≠ "_" ∧ f1.name ≠ "_" ∧ f2.name ≠ "_") ∧ f0.offset = 0 ∧ f1.offset = 1 ∧ f2.offset = 2) (hs : P.stoodInHeld t = false) (hg : P.eqGuardType P.depth t = false)
    (hx : ev ρ x = some (.agg (List.toArray [.int k a, .bool b, .bool c]))) (hy : ev ρ y = some (.agg (List.toArray [.int k a, .bool b, .bool c]))) : Yl P n ρ F Γ (.binOp .neq t x y u) ty (.bool false) := fun d' pos af g c' w ha hw => by
  have h3 : (Op.equal t (.agg (List.toArray [.int k a, .bool b, .bool c])) (.agg (List.toArray [.int k a, .bool b, .bool c]))).run P w = .ok true w := eqIn3 9998 hu h0 h1 h2 hn hs w
  simp [execOp, ha.eval hx, ha.eval hy, eqGuard, hg, binOp, h3]
abbrev T40 : TypeId := 40

theorem c_cutS0 (F : FH) (b1 b2 b3 : Nat) : Fn Tryz.prog 101 ([int 0] ++ [.pointer (some ⟨b1, 0, none⟩), .pointer (some ⟨b2, 0, none⟩), .pointer (some ⟨b3, 0, none⟩)]) F [(b3, .cells (List.toArray [nilV]) T40 (0, 0)), (b2, .cells (List.toArray [int 0]) T3 (0, 0)), (b1, .cells (List.toArray [str []]) 9 (0, 0))] (fun r _ Γ' => r = .tuple #[] ∧ Γ' = [(b3, .cells (List.toArray [nilV]) T40 (0, 0)), (b2, .cells (List.toArray [int 1]) T3 (0, 0)), (b1, .cells (List.toArray [str []]) 9 (0, 0))]) := by
  refine fn_walk Tryz.func101 (by kernel_rfl) rfl rfl rfl ?_
  intro w0
  simp only [numb, List.map_nil, List.map_cons, Nat.zero_add, Nat.reduceAdd, List.cons_append, List.nil_append]
  refine w_seq ?_
  refine w_seq ?_
  refine w_region ?_
  refine o_run rfl (e_val rfl (y_ld ty9 rfl rfl) ?_)
  refine o_run rfl (e_val rfl (y_ld ty3 rfl rfl) ?_)
  refine o_run rfl (e_val rfl (y_p rfl) ?_)
  refine o_run rfl (e_val rfl (y_slS ty9 rfl rfl rfl (by omega)) ?_)
  refine o_run rfl (e_callV rfl rfl (c_Trim [] (by decide) _) rfl ?_)
  refine o_run rfl (e_val rfl (y_p rfl) ?_)
  refine w_nil ?_
  refine q_then ?_
  refine w_seq ?_
  refine w_region ?_
  refine o_run rfl (e_val rfl (y_p rfl) ?_)
  refine o_run rfl (e_val rfl (y_p (v := .bool false) rfl) ?_)
  refine w_nil ?_
  refine q_then ?_
  refine w_condF rfl ?_
  refine w_skip ?_
  refine q_then ?_
  refine w_region ?_
  refine o_run rfl (e_val rfl (y_p rfl) ?_)
  refine o_run rfl (e_val rfl (y_addI rfl rfl (by omega)) ?_)
  refine o_run rfl (e_st ty3 rfl rfl rfl rfl rfl rfl ?_)
  refine w_nil ?_
  refine r_none rfl ?_
  -- leaf 1
  exact ⟨rfl, rfl⟩

theorem c_Split0 (F : FH) : FnV Tryz.prog 53 [str []] F (.tuple #[nilV, .bool true]) := by
  refine fn_walk Tryz.func53 (by kernel_rfl) rfl rfl rfl ?_
  intro w0
  simp only [numb, List.map_nil, List.map_cons, Nat.zero_add, Nat.reduceAdd, List.cons_append, List.nil_append]
  refine w_seq ?_
  refine w_region ?_
  refine o_run rfl (e_box rfl rfl rfl (fun b1 => ?_))
  refine o_run rfl (e_val rfl (y_p rfl) ?_)
  refine o_run rfl (e_val rfl (y_p rfl) ?_)
  refine w_nil ?_
  refine q_then ?_
  refine w_seq ?_
  refine w_region ?_
  refine o_run rfl (e_alloc ty40 rfl rfl (fun b4 => ?_))
  refine w_nil ?_
  refine q_then ?_
  refine w_seq ?_
  refine w_region ?_
  refine o_run rfl (e_alloc ty3 rfl rfl (fun b5 => ?_))
  refine o_run rfl (e_st ty3 rfl rfl rfl rfl rfl rfl ?_)
  refine w_nil ?_
  refine q_then ?_
  refine w_seq ?_
  refine w_region ?_
  refine o_run rfl (e_val rfl (y_p rfl) ?_)
  refine o_run rfl (e_val rfl (y_p rfl) ?_)
  refine w_nil ?_
  refine q_then ?_
  refine w_seq ?_
  refine w_region ?_
  refine o_run rfl (e_val rfl (y_p rfl) ?_)
  refine w_nil ?_
  refine q_then ?_
  refine w_seq ?_
  refine w_seq ?_
  refine w_region ?_
  refine o_run rfl (e_val rfl (y_p rfl) ?_)
  refine w_nil ?_
  refine q_then ?_
  refine w_block ?_
  refine w_loop (T := Unit) (fun _ => ([(1, .pointer (some ⟨b1, 0, none⟩)), (4, .pointer (some ⟨b4, 0, none⟩)), (6, .func (.func 101) #[] (List.toArray [.pointer (some ⟨b1, 0, none⟩), .pointer (some ⟨b5, 0, none⟩), .pointer (some ⟨b4, 0, none⟩)])), (7, .bool false), (8, int 0)], F, [(b5, .cells (List.toArray [int 0]) T3 (0, 0)), (b4, .cells (List.toArray [nilV]) T40 (0, 0)), (b1, .cells (List.toArray [str []]) 9 (0, 0))])) (fun _ => True) (fun _ => 0) () (trivial) (by repeat (first | exact trivial | refine ⟨rfl, ?_⟩)) rfl rfl ?_
  rintro ⟨⟩ _
  dsimp only
  refine w_seq ?_
  refine w_seq ?_
  refine w_region ?_
  refine o_run rfl (e_val rfl (y_p rfl) ?_)
  refine o_run rfl (e_val rfl (y_ld ty9 rfl rfl) ?_)
  refine o_run rfl (e_val rfl (y_lenS ty9 rfl) ?_)
  refine o_run rfl (e_val rfl (y_p (v := .bool false) rfl) ?_)
  refine w_nil ?_
  refine q_then ?_
  refine w_condF rfl ?_
  refine w_exit ?_
  refine q_thenE ?_
  refine q_thenE ?_
  refine q_inE ?_
  refine q_then ?_
  refine w_seq ?_
  refine w_seq ?_
  refine w_region ?_
  refine o_run rfl (e_val rfl (y_p rfl) ?_)
  refine w_nil ?_
  refine q_then ?_
  refine w_condF rfl ?_
  refine w_skip ?_
  refine q_then ?_
  refine w_seq ?_
  refine w_region ?_
  refine o_run rfl (e_val rfl (y_p rfl) ?_)
  refine o_run rfl (e_val rfl (y_ld ty9 rfl rfl) ?_)
  refine o_run rfl (e_val rfl (y_lenS ty9 rfl) ?_)
  refine o_run rfl (e_callK (Γ2 := []) rfl rfl (c_cutS0 F b1 b5 b4) (List.Perm.swap _ _ _) rfl (fun r17 Γ17 hR17 => ?_))
  obtain ⟨rfl, rfl⟩ := hR17
  refine w_nil ?_
  refine q_then ?_
  refine w_seq ?_
  refine w_region ?_
  refine o_run rfl (e_val rfl (y_ld ty40 rfl rfl) ?_)
  refine o_run rfl (e_val rfl (y_ld ty40 rfl rfl) ?_)
  refine o_run rfl (e_val rfl (y_lenL ty40 rfl) ?_)
  refine o_run rfl (e_val rfl (y_ld ty40 rfl rfl) ?_)
  refine o_run rfl (e_val rfl (y_lenL ty40 rfl) ?_)
  refine o_run rfl (e_val rfl (y_slc3 ty40 ty9 rfl rfl rfl (by omega)) ?_)
  refine o_run rfl (e_val rfl (y_p rfl) ?_)
  refine o_run rfl (e_val rfl (y_p rfl) ?_)
  refine w_nil ?_
  refine q_then ?_
  refine w_ret ?_
  refine PW.clear ?_
  refine r_many (rs := [.tmp 2, .tmp 3]) rfl rfl ?_
  -- leaf 1
  rfl


def nothingC : List Value := [.bool false, .bool false, .bool false, .bool false, .bool false, .bool false, .bool false, int (-1), int (-1), int (-1), int (-1), int (-1), int (-1)]
theorem c_Contains0 (F : FH) (a : Option Addr) (c : Nat) (x : List UInt8) : FnV Tryz.prog 100 [.slice a 0 c, str x] F (.bool false) :=
  fnv_same (⟨_, Tryz.func100, by kernel_rfl, rfl⟩ : Callable Tryz.prog 100) fun w _ => Tryz.slices_Contains_string_empty a c ⟨x.toArray⟩ w
def metaC (code : Int) : List Value := int code :: nothingC ++ [int (-1), int (-1), int (-1), int (-1), int 0, int 0, str []]

theorem c_nothing (F : FH) : FnV Tryz.prog 98 [] F (.agg (List.toArray nothingC)) := by
  refine fn_walk Tryz.func98 (by kernel_rfl) rfl rfl rfl ?_
  intro w0
  simp only [numb, List.map_nil, List.map_cons, Nat.zero_add, Nat.reduceAdd, List.cons_append, List.nil_append]
  refine w_seq ?_
  refine w_region ?_
  refine o_run rfl (e_alloc ty70 rfl rfl (fun b0 => ?_))
  refine w_nil ?_
  refine q_then ?_
  refine w_seq ?_
  refine w_region ?_
  refine o_run rfl (e_val rfl (y_build pl70 rfl rfl) ?_)
  refine o_run rfl (e_st ty70 rfl rfl rfl rfl rfl rfl ?_)
  refine w_nil ?_
  refine q_then ?_
  refine w_ret ?_
  refine r_cell rfl ty70 rfl rfl ?_
  -- leaf 1
  rfl

theorem c_ctlOf0 (F : FH) (v : Value) (hv : SlAt F encF v []) : FnV Tryz.prog 50 [v] F (.agg (List.toArray nothingC)) := by
  refine fn_walk Tryz.func50 (by kernel_rfl) rfl rfl rfl ?_
  intro w0
  simp only [numb, List.map_nil, List.map_cons, Nat.zero_add, Nat.reduceAdd, List.cons_append, List.nil_append]
  refine w_seq ?_
  refine w_region ?_
  refine o_run rfl (e_alloc ty70 rfl rfl (fun b2 => ?_))
  refine w_nil ?_
  refine q_then ?_
  refine w_seq ?_
  refine w_seq ?_
  refine w_region ?_
  refine o_run rfl (e_val rfl (y_p rfl) ?_)
  refine o_run rfl (e_callV rfl rfl (c_Get _ v [] _ hv FsOk.nil (by decide)) rfl ?_)
  refine o_run rfl (e_val rfl (y_p rfl) ?_)
  refine o_run rfl (e_val rfl (y_p rfl) ?_)
  refine o_run rfl (e_val rfl (y_p rfl) ?_)
  refine o_run rfl (e_val rfl (y_p rfl) ?_)
  refine o_run rfl (e_val rfl (y_p rfl) ?_)
  refine w_nil ?_
  refine q_then ?_
  refine w_seq ?_
  refine w_region ?_
  refine o_run rfl (e_val rfl (y_p rfl) ?_)
  refine o_run rfl (e_val rfl (y_p (v := .bool false) rfl) ?_)
  refine w_nil ?_
  refine q_then ?_
  refine w_condF rfl ?_
  refine w_skip ?_
  refine q_then ?_
  refine w_seq ?_
  refine w_region ?_
  refine o_run rfl (e_callV rfl rfl (c_nothing _) rfl ?_)
  refine o_run rfl (e_alloc ty70 rfl rfl (fun b7 => ?_))
  refine o_run rfl (e_st ty70 rfl rfl rfl rfl rfl rfl ?_)
  refine w_nil ?_
  refine q_then ?_
  refine w_seq ?_
  refine w_region ?_
  refine o_run rfl (e_val rfl (y_p rfl) ?_)
  refine o_run rfl (e_callV rfl rfl (c_Get _ v [] _ hv FsOk.nil (by decide)) rfl ?_)
  refine o_run rfl (e_val rfl (y_p rfl) ?_)
  refine o_run rfl (e_val rfl (y_p rfl) ?_)
  refine o_run rfl (e_val rfl (y_p rfl) ?_)
  refine o_run rfl (e_val rfl (y_p rfl) ?_)
  refine o_run rfl (e_val rfl (y_p rfl) ?_)
  refine w_nil ?_
  refine q_then ?_
  refine w_seq ?_
  refine w_region ?_
  refine o_run rfl (e_val rfl (y_p rfl) ?_)
  refine o_run rfl (e_callV rfl rfl (c_Lower [] (by decide) _) rfl ?_)
  refine o_run rfl (e_callV rfl rfl (c_Split0 _) rfl ?_)
  refine o_run rfl (e_val rfl (y_p rfl) ?_)
  refine o_run rfl (e_val rfl (y_p rfl) ?_)
  refine o_run rfl (e_val rfl (y_p rfl) ?_)
  refine o_run rfl (e_val rfl (y_p rfl) ?_)
  refine o_run rfl (e_val rfl (y_p rfl) ?_)
  refine w_nil ?_
  refine q_then ?_
  refine w_seq ?_
  refine w_region ?_
  refine o_run rfl (e_val rfl (y_p rfl) ?_)
  refine o_run rfl (e_val rfl (y_p rfl) ?_)
  first | refine PW.wayD (t := 38) rfl rfl (fun h1 => ?_) (fun h1 => ?_) | refine PW.way (t := 38) rfl rfl (fun h1 => ?_) (fun h1 => ?_)
  · refine o_yes rfl rfl rfl (e_val rfl (y_p rfl) ?_)
    refine o_yes rfl rfl rfl (e_callV rfl rfl (c_Contains0 _ _ _ _) rfl ?_)
    refine o_run rfl (e_val rfl (y_p rfl) ?_)
    refine o_run rfl (e_val rfl (y_fa fo70_1 rfl) ?_)
    refine o_run rfl (e_st ty4 rfl rfl rfl rfl rfl rfl ?_)
    refine w_nil ?_
    refine q_then ?_
    refine w_seq ?_
    refine w_region ?_
    refine o_run rfl (e_val rfl (y_ld ty70 rfl rfl) ?_)
    refine o_run rfl (e_st ty70 rfl rfl rfl rfl rfl rfl ?_)
    refine w_nil ?_
    refine q_then ?_
    refine w_ret ?_
    refine r_cell rfl ty70 rfl rfl ?_
    -- leaf 1
    rfl
  · refine g_no rfl rfl rfl rfl ?_
    refine g_no rfl rfl rfl rfl ?_
    refine o_run rfl (e_val rfl (y_p rfl) ?_)
    refine o_run rfl (e_val rfl (y_fa fo70_1 rfl) ?_)
    refine o_run rfl (e_st ty4 rfl rfl rfl rfl rfl rfl ?_)
    refine w_nil ?_
    refine q_then ?_
    refine w_seq ?_
    refine w_region ?_
    refine o_run rfl (e_val rfl (y_ld ty70 rfl rfl) ?_)
    refine o_run rfl (e_st ty70 rfl rfl rfl rfl rfl rfl ?_)
    refine w_nil ?_
    refine q_then ?_
    refine w_ret ?_
    refine r_cell rfl ty70 rfl rfl ?_
    -- leaf 2
    rfl

theorem c_seen0 (F : FH) (b : Nat) (code : Int) (r s : List UInt8) (v : Value) (hv : SlAt F encF v []) (hs : s.length ≤ 1000) : Fn Tryz.prog 51 ([str s] ++ [.pointer (some ⟨b, 0, none⟩)]) F [(b, .cells (List.toArray [int 1, int code, str r, v]) 32 (0, 0))] (fun x _ Γ' => x = int (-1) ∧ Γ' = [(b, .cells (List.toArray [int 1, int code, str r, v]) 32 (0, 0))]) := by
  refine fn_walk Tryz.func51 (by kernel_rfl) rfl rfl rfl ?_
  intro w0
  simp only [numb, List.map_nil, List.map_cons, Nat.zero_add, Nat.reduceAdd, List.cons_append, List.nil_append]
  refine w_seq ?_
  refine w_region ?_
  refine o_run rfl (e_val rfl (y_p rfl) ?_)
  refine w_nil ?_
  refine q_then ?_
  refine w_seq ?_
  refine w_seq ?_
  refine w_region ?_
  refine o_run rfl (e_val rfl (y_fa fo32_3 rfl) ?_)
  refine o_run rfl (e_val rfl (y_ld ty27 rfl rfl) ?_)
  refine o_run rfl (e_val rfl (y_p rfl) ?_)
  refine o_run rfl (e_callV rfl rfl (c_dated0 _ v hv s hs) rfl ?_)
  refine o_run rfl (e_alloc ty112 rfl rfl (fun b4 => ?_))
  refine o_run rfl (e_st ty112 rfl rfl rfl rfl rfl rfl ?_)
  refine w_nil ?_
  refine q_then ?_
  refine w_seq ?_
  refine w_region ?_
  refine o_run rfl (e_val rfl (y_fa fo112_2 rfl) ?_)
  refine o_run rfl (e_val rfl (y_ld ty4 rfl rfl) ?_)
  refine w_nil ?_
  refine q_then ?_
  refine w_condF rfl ?_
  refine w_skip ?_
  refine q_then ?_
  refine w_seq ?_
  refine w_region ?_
  refine o_run rfl (e_val rfl (y_p rfl) ?_)
  refine w_nil ?_
  refine q_then ?_
  refine w_ret ?_
  refine PW.only [(b, .cells (List.toArray [int 1, int code, str r, v]) 32 (0, 0))] ?_
  refine r_one rfl rfl ?_
  -- leaf 1
  exact ⟨rfl, rfl⟩

theorem c_metaOf0 (F : FH) (code : Int) (r : List UInt8) (v : Value) (hv : SlAt F encF v []) : FnV Tryz.prog 26 [.agg (List.toArray [int 1, int code, str r, v]), int 0, int 0] F (.agg (List.toArray (metaC code))) := by
  obtain ⟨a0, cap0, hv0, -⟩ := hv.at
  subst hv0
  refine fn_walk Tryz.func26 (by kernel_rfl) rfl rfl rfl ?_
  intro w0
  simp only [numb, List.map_nil, List.map_cons, Nat.zero_add, Nat.reduceAdd, List.cons_append, List.nil_append]
  refine w_seq ?_
  refine w_region ?_
  refine o_run rfl (e_box rfl rfl rfl (fun b3 => ?_))
  refine o_run rfl (e_alloc ty72 rfl rfl (fun b6 => ?_))
  refine w_nil ?_
  refine q_then ?_
  refine w_seq ?_
  refine w_drawA [0, 1, 2, 3, 5, 6, 7] mixed ?_
  refine a_val (i := 0) (listed' := #[true, false, false, false, false, false, false, false, false, false]) rfl rfl rfl (by kernel_rfl) (by kernel_rfl) (by kernel_rfl) rfl (by kernel_rfl) rfl (by repeat (first | exact np_post | refine np_then ?_ | refine np_in ?_)) (by first | (intro p hp; (repeat (first | exact hp | apply List.mem_cons_of_mem | apply List.mem_append_right)); done) | (repeat (first | exact in_nil | refine in_cons (by repeat (first | exact List.mem_cons_self | apply List.mem_cons_of_mem | apply List.mem_append_right)) ?_))) (by first | exact Le.refl _ | assumption | exact Le.trans ‹_› ‹_›) rfl (y_fa fo32_1 rfl) ?_
  refine a_val (i := 1) (listed' := #[true, true, false, false, false, false, false, false, false, false]) rfl rfl rfl (by kernel_rfl) (by kernel_rfl) (by kernel_rfl) rfl (by kernel_rfl) rfl (by repeat (first | exact np_post | refine np_then ?_ | refine np_in ?_)) (by first | (intro p hp; (repeat (first | exact hp | apply List.mem_cons_of_mem | apply List.mem_append_right)); done) | (repeat (first | exact in_nil | refine in_cons (by repeat (first | exact List.mem_cons_self | apply List.mem_cons_of_mem | apply List.mem_append_right)) ?_))) (by first | exact Le.refl _ | assumption | exact Le.trans ‹_› ‹_›) rfl (y_ld ty3 rfl rfl) ?_
  refine a_val (i := 2) (listed' := #[true, true, true, false, false, false, false, false, false, false]) rfl rfl rfl (by kernel_rfl) (by kernel_rfl) (by kernel_rfl) rfl (by kernel_rfl) rfl (by repeat (first | exact np_post | refine np_then ?_ | refine np_in ?_)) (by first | (intro p hp; (repeat (first | exact hp | apply List.mem_cons_of_mem | apply List.mem_append_right)); done) | (repeat (first | exact in_nil | refine in_cons (by repeat (first | exact List.mem_cons_self | apply List.mem_cons_of_mem | apply List.mem_append_right)) ?_))) (by first | exact Le.refl _ | assumption | exact Le.trans ‹_› ‹_›) rfl (y_fa fo32_3 rfl) ?_
  refine a_val (i := 3) (listed' := #[true, true, true, true, false, false, false, false, false, false]) rfl rfl rfl (by kernel_rfl) (by kernel_rfl) (by kernel_rfl) rfl (by kernel_rfl) rfl (by repeat (first | exact np_post | refine np_then ?_ | refine np_in ?_)) (by first | (intro p hp; (repeat (first | exact hp | apply List.mem_cons_of_mem | apply List.mem_append_right)); done) | (repeat (first | exact in_nil | refine in_cons (by repeat (first | exact List.mem_cons_self | apply List.mem_cons_of_mem | apply List.mem_append_right)) ?_))) (by first | exact Le.refl _ | assumption | exact Le.trans ‹_› ‹_›) rfl (y_ld ty27 rfl rfl) ?_
  refine a_val (i := 5) (listed' := #[true, true, true, true, false, true, false, false, false, false]) rfl rfl rfl (by kernel_rfl) (by kernel_rfl) (by kernel_rfl) rfl (by kernel_rfl) rfl (by repeat (first | exact np_post | refine np_then ?_ | refine np_in ?_)) (by first | (intro p hp; (repeat (first | exact hp | apply List.mem_cons_of_mem | apply List.mem_append_right)); done) | (repeat (first | exact in_nil | refine in_cons (by repeat (first | exact List.mem_cons_self | apply List.mem_cons_of_mem | apply List.mem_append_right)) ?_))) (by first | exact Le.refl _ | assumption | exact Le.trans ‹_› ‹_›) rfl (y_p rfl) ?_
  refine a_val (i := 6) (listed' := #[true, true, true, true, false, true, true, false, false, false]) rfl rfl rfl (by kernel_rfl) (by kernel_rfl) (by kernel_rfl) rfl (by kernel_rfl) rfl (by repeat (first | exact np_post | refine np_then ?_ | refine np_in ?_)) (by first | (intro p hp; (repeat (first | exact hp | apply List.mem_cons_of_mem | apply List.mem_append_right)); done) | (repeat (first | exact in_nil | refine in_cons (by repeat (first | exact List.mem_cons_self | apply List.mem_cons_of_mem | apply List.mem_append_right)) ?_))) (by first | exact Le.refl _ | assumption | exact Le.trans ‹_› ‹_›) rfl (y_p rfl) ?_
  refine a_two (i := 4) (j := 8) (l1 := #[true, true, true, true, true, true, true, false, false, false]) (l2 := #[true, true, true, true, false, true, true, false, true, false]) rfl rfl rfl rfl (by kernel_rfl) rfl rfl rfl rfl (.inr ⟨(by first | (intro p hp; (repeat (first | exact hp | apply List.mem_cons_of_mem | apply List.mem_append_right)); done) | (repeat (first | exact in_nil | refine in_cons (by repeat (first | exact List.mem_cons_self | apply List.mem_cons_of_mem | apply List.mem_append_right)) ?_))), (by first | exact Le.refl _ | assumption | exact Le.trans ‹_› ‹_›)⟩) ?_ ?_
  · refine e_callV rfl rfl (c_ctlOf0 _ _ hv) rfl ?_
    refine a_val (i := 7) (listed' := #[true, true, true, true, true, true, true, true, false, false]) rfl rfl rfl (by kernel_rfl) (by kernel_rfl) (by kernel_rfl) rfl (by kernel_rfl) rfl (by repeat (first | exact np_post | refine np_then ?_ | refine np_in ?_)) (by first | (intro p hp; (repeat (first | exact hp | apply List.mem_cons_of_mem | apply List.mem_append_right)); done) | (repeat (first | exact in_nil | refine in_cons (by repeat (first | exact List.mem_cons_self | apply List.mem_cons_of_mem | apply List.mem_append_right)) ?_))) (by first | exact Le.refl _ | assumption | exact Le.trans ‹_› ‹_›) rfl (y_build pl72 rfl rfl) ?_
    refine a_one (i := 8) (listed' := #[true, true, true, true, true, true, true, true, true, false]) rfl rfl (by kernel_rfl) rfl rfl (.inr ⟨(by first | (intro p hp; (repeat (first | exact hp | apply List.mem_cons_of_mem | apply List.mem_append_right)); done) | (repeat (first | exact in_nil | refine in_cons (by repeat (first | exact List.mem_cons_self | apply List.mem_cons_of_mem | apply List.mem_append_right)) ?_))), (by first | exact Le.refl _ | assumption | exact Le.trans ‹_› ‹_›)⟩) (e_alloc ty72 rfl rfl (fun b7 => ?_))
    refine a_one (i := 9) (listed' := #[true, true, true, true, true, true, true, true, true, true]) rfl rfl (by kernel_rfl) rfl rfl (.inr ⟨(by first | (intro p hp; (repeat (first | exact hp | apply List.mem_cons_of_mem | apply List.mem_append_right)); done) | (repeat (first | exact in_nil | refine in_cons (by repeat (first | exact List.mem_cons_self | apply List.mem_cons_of_mem | apply List.mem_append_right)) ?_))), (by first | exact Le.refl _ | assumption | exact Le.trans ‹_› ‹_›)⟩) (e_st ty72 rfl rfl rfl rfl rfl rfl ?_)
    refine a_done (by kernel_rfl) (by kernel_rfl) ?_
    refine q_then ?_
    refine w_seq ?_
    refine w_region ?_
    refine PW.perm (_ :: _ :: [(b3, .cells (List.toArray [int 1, int code, str r, .slice a0 0 cap0]) 32 (0, 0))]) (by exact List.Perm.refl _) ?_
    refine o_run rfl (e_val rfl (y_p rfl) ?_)
    refine o_run rfl (e_val rfl (y_p rfl) ?_)
    refine w_nil ?_
    refine q_then ?_
    refine w_seq ?_
    refine w_region ?_
    refine o_run rfl (e_val rfl (y_p rfl) ?_)
    refine o_run rfl (e_callS rfl rfl (c_seen0 F b3 code r _ (.slice a0 0 cap0) hv (by decide)) rfl (fun r1 Γ1 hR1 => ?_))
    obtain ⟨rfl, rfl⟩ := hR1
    refine o_run rfl (e_val rfl (y_p rfl) ?_)
    refine o_run rfl (e_callS rfl rfl (c_seen0 F b3 code r _ (.slice a0 0 cap0) hv (by decide)) rfl (fun r1 Γ1 hR1 => ?_))
    obtain ⟨rfl, rfl⟩ := hR1
    refine o_run rfl (e_val rfl (y_fa fo72_2 rfl) ?_)
    refine o_run rfl (e_st ty3 rfl rfl rfl rfl rfl rfl ?_)
    refine o_run rfl (e_val rfl (y_fa fo72_4 rfl) ?_)
    refine o_run rfl (e_st ty3 rfl rfl rfl rfl rfl rfl ?_)
    refine w_nil ?_
    refine q_then ?_
    refine w_seq ?_
    refine w_seq ?_
    refine w_region ?_
    refine o_run rfl (e_val rfl (y_fa fo32_3 rfl) ?_)
    refine o_run rfl (e_val rfl (y_ld ty27 rfl rfl) ?_)
    refine o_run rfl (e_callV rfl rfl (c_dated0 _ _ hv _ (by decide)) rfl ?_)
    refine o_run rfl (e_alloc ty112 rfl rfl (fun b9 => ?_))
    refine o_run rfl (e_st ty112 rfl rfl rfl rfl rfl rfl ?_)
    refine w_nil ?_
    refine q_then ?_
    refine w_seq ?_
    refine w_region ?_
    refine o_run rfl (e_val rfl (y_ld ty112 rfl rfl) ?_)
    refine o_run rfl (e_val rfl (y_build pl112 rfl rfl) ?_)
    refine o_run rfl (e_val rfl (y_ne3 ty112.u ty3 ty4 ty4 (by decide) (by kernel_rfl) (by kernel_rfl) rfl rfl) ?_)
    refine w_nil ?_
    refine q_then ?_
    refine w_condF rfl ?_
    refine w_skip ?_
    refine q_then ?_
    refine w_seq ?_
    refine w_region ?_
    refine o_run rfl (e_val rfl (y_fa fo32_3 rfl) ?_)
    refine o_run rfl (e_val rfl (y_ld ty27 rfl rfl) ?_)
    refine o_run rfl (e_callV rfl rfl (c_Get _ _ [] _ hv FsOk.nil (by decide)) rfl ?_)
    refine o_run rfl (e_val rfl (y_p rfl) ?_)
    refine o_run rfl (e_val rfl (y_p rfl) ?_)
    refine o_run rfl (e_val rfl (y_p rfl) ?_)
    refine o_run rfl (e_val rfl (y_p rfl) ?_)
    refine o_run rfl (e_val rfl (y_p rfl) ?_)
    refine w_nil ?_
    refine q_then ?_
    refine w_seq ?_
    refine w_seq ?_
    refine w_region ?_
    refine o_run rfl (e_val rfl (y_p rfl) ?_)
    refine o_run rfl (e_callV rfl rfl (c_Split0 _) rfl ?_)
    refine o_run rfl (e_val rfl (y_p rfl) ?_)
    refine o_run rfl (e_val rfl (y_p rfl) ?_)
    refine o_run rfl (e_val rfl (y_p rfl) ?_)
    refine o_run rfl (e_val rfl (y_p rfl) ?_)
    refine o_run rfl (e_val rfl (y_p rfl) ?_)
    refine w_nil ?_
    refine q_then ?_
    refine w_seq ?_
    refine w_region ?_
    refine o_run rfl (e_val rfl (y_p rfl) ?_)
    refine o_run rfl (e_val rfl (y_lenL ty40 rfl) ?_)
    refine o_run rfl (e_val rfl (y_p (v := .bool false) rfl) ?_)
    refine w_nil ?_
    refine q_then ?_
    refine w_condF rfl ?_
    refine w_skip ?_
    refine q_then ?_
    refine w_seq ?_
    refine w_region ?_
    refine o_run rfl (e_val rfl (y_fa fo32_3 rfl) ?_)
    refine o_run rfl (e_val rfl (y_ld ty27 rfl rfl) ?_)
    refine o_run rfl (e_callV rfl rfl (c_Get _ _ [] _ hv FsOk.nil (by decide)) rfl ?_)
    refine o_run rfl (e_val rfl (y_p rfl) ?_)
    refine o_run rfl (e_val rfl (y_p rfl) ?_)
    refine o_run rfl (e_val rfl (y_p rfl) ?_)
    refine o_run rfl (e_val rfl (y_fa fo72_8 rfl) ?_)
    refine o_run rfl (e_st ty9 rfl rfl rfl rfl rfl rfl ?_)
    refine w_nil ?_
    refine q_then ?_
    refine w_seq ?_
    refine w_region ?_
    refine o_run rfl (e_val rfl (y_ld ty72 rfl rfl) ?_)
    refine o_run rfl (e_st ty72 rfl rfl rfl rfl rfl rfl ?_)
    refine w_nil ?_
    refine q_then ?_
    refine w_ret ?_
    refine r_cell1 [] rfl ty72 rfl rfl ?_
    -- leaf 1
    rfl
  · refine e_alloc ty72 rfl rfl (fun b7 => ?_)
    refine a_one (i := 4) (listed' := #[true, true, true, true, true, true, true, false, true, false]) rfl rfl (by kernel_rfl) rfl rfl (.inr ⟨(by first | (intro p hp; (repeat (first | exact hp | apply List.mem_cons_of_mem | apply List.mem_append_right)); done) | (repeat (first | exact in_nil | refine in_cons (by repeat (first | exact List.mem_cons_self | apply List.mem_cons_of_mem | apply List.mem_append_right)) ?_))), (by first | exact Le.refl _ | assumption | exact Le.trans ‹_› ‹_›)⟩) (e_callV rfl rfl (c_ctlOf0 _ _ hv) rfl ?_)
    refine a_val (i := 7) (listed' := #[true, true, true, true, true, true, true, true, true, false]) rfl rfl rfl (by kernel_rfl) (by kernel_rfl) (by kernel_rfl) rfl (by kernel_rfl) rfl (by repeat (first | exact np_post | refine np_then ?_ | refine np_in ?_)) (by first | (intro p hp; (repeat (first | exact hp | apply List.mem_cons_of_mem | apply List.mem_append_right)); done) | (repeat (first | exact in_nil | refine in_cons (by repeat (first | exact List.mem_cons_self | apply List.mem_cons_of_mem | apply List.mem_append_right)) ?_))) (by first | exact Le.refl _ | assumption | exact Le.trans ‹_› ‹_›) rfl (y_build pl72 rfl rfl) ?_
    refine a_one (i := 9) (listed' := #[true, true, true, true, true, true, true, true, true, true]) rfl rfl (by kernel_rfl) rfl rfl (.inr ⟨(by first | (intro p hp; (repeat (first | exact hp | apply List.mem_cons_of_mem | apply List.mem_append_right)); done) | (repeat (first | exact in_nil | refine in_cons (by repeat (first | exact List.mem_cons_self | apply List.mem_cons_of_mem | apply List.mem_append_right)) ?_))), (by first | exact Le.refl _ | assumption | exact Le.trans ‹_› ‹_›)⟩) (e_st ty72 rfl rfl rfl rfl rfl rfl ?_)
    refine a_done (by kernel_rfl) (by kernel_rfl) ?_
    refine q_then ?_
    refine w_seq ?_
    refine w_region ?_
    refine PW.perm (_ :: _ :: [(b3, .cells (List.toArray [int 1, int code, str r, .slice a0 0 cap0]) 32 (0, 0))]) (by exact List.Perm.refl _) ?_
    refine o_run rfl (e_val rfl (y_p rfl) ?_)
    refine o_run rfl (e_val rfl (y_p rfl) ?_)
    refine w_nil ?_
    refine q_then ?_
    refine w_seq ?_
    refine w_region ?_
    refine o_run rfl (e_val rfl (y_p rfl) ?_)
    refine o_run rfl (e_callS rfl rfl (c_seen0 F b3 code r _ (.slice a0 0 cap0) hv (by decide)) rfl (fun r1 Γ1 hR1 => ?_))
    obtain ⟨rfl, rfl⟩ := hR1
    refine o_run rfl (e_val rfl (y_p rfl) ?_)
    refine o_run rfl (e_callS rfl rfl (c_seen0 F b3 code r _ (.slice a0 0 cap0) hv (by decide)) rfl (fun r1 Γ1 hR1 => ?_))
    obtain ⟨rfl, rfl⟩ := hR1
    refine o_run rfl (e_val rfl (y_fa fo72_2 rfl) ?_)
    refine o_run rfl (e_st ty3 rfl rfl rfl rfl rfl rfl ?_)
    refine o_run rfl (e_val rfl (y_fa fo72_4 rfl) ?_)
    refine o_run rfl (e_st ty3 rfl rfl rfl rfl rfl rfl ?_)
    refine w_nil ?_
    refine q_then ?_
    refine w_seq ?_
    refine w_seq ?_
    refine w_region ?_
    refine o_run rfl (e_val rfl (y_fa fo32_3 rfl) ?_)
    refine o_run rfl (e_val rfl (y_ld ty27 rfl rfl) ?_)
    refine o_run rfl (e_callV rfl rfl (c_dated0 _ _ hv _ (by decide)) rfl ?_)
    refine o_run rfl (e_alloc ty112 rfl rfl (fun b9 => ?_))
    refine o_run rfl (e_st ty112 rfl rfl rfl rfl rfl rfl ?_)
    refine w_nil ?_
    refine q_then ?_
    refine w_seq ?_
    refine w_region ?_
    refine o_run rfl (e_val rfl (y_ld ty112 rfl rfl) ?_)
    refine o_run rfl (e_val rfl (y_build pl112 rfl rfl) ?_)
    refine o_run rfl (e_val rfl (y_ne3 ty112.u ty3 ty4 ty4 (by decide) (by kernel_rfl) (by kernel_rfl) rfl rfl) ?_)
    refine w_nil ?_
    refine q_then ?_
    refine w_condF rfl ?_
    refine w_skip ?_
    refine q_then ?_
    refine w_seq ?_
    refine w_region ?_
    refine o_run rfl (e_val rfl (y_fa fo32_3 rfl) ?_)
    refine o_run rfl (e_val rfl (y_ld ty27 rfl rfl) ?_)
    refine o_run rfl (e_callV rfl rfl (c_Get _ _ [] _ hv FsOk.nil (by decide)) rfl ?_)
    refine o_run rfl (e_val rfl (y_p rfl) ?_)
    refine o_run rfl (e_val rfl (y_p rfl) ?_)
    refine o_run rfl (e_val rfl (y_p rfl) ?_)
    refine o_run rfl (e_val rfl (y_p rfl) ?_)
    refine o_run rfl (e_val rfl (y_p rfl) ?_)
    refine w_nil ?_
    refine q_then ?_
    refine w_seq ?_
    refine w_seq ?_
    refine w_region ?_
    refine o_run rfl (e_val rfl (y_p rfl) ?_)
    refine o_run rfl (e_callV rfl rfl (c_Split0 _) rfl ?_)
    refine o_run rfl (e_val rfl (y_p rfl) ?_)
    refine o_run rfl (e_val rfl (y_p rfl) ?_)
    refine o_run rfl (e_val rfl (y_p rfl) ?_)
    refine o_run rfl (e_val rfl (y_p rfl) ?_)
    refine o_run rfl (e_val rfl (y_p rfl) ?_)
    refine w_nil ?_
    refine q_then ?_
    refine w_seq ?_
    refine w_region ?_
    refine o_run rfl (e_val rfl (y_p rfl) ?_)
    refine o_run rfl (e_val rfl (y_lenL ty40 rfl) ?_)
    refine o_run rfl (e_val rfl (y_p (v := .bool false) rfl) ?_)
    refine w_nil ?_
    refine q_then ?_
    refine w_condF rfl ?_
    refine w_skip ?_
    refine q_then ?_
    refine w_seq ?_
    refine w_region ?_
    refine o_run rfl (e_val rfl (y_fa fo32_3 rfl) ?_)
    refine o_run rfl (e_val rfl (y_ld ty27 rfl rfl) ?_)
    refine o_run rfl (e_callV rfl rfl (c_Get _ _ [] _ hv FsOk.nil (by decide)) rfl ?_)
    refine o_run rfl (e_val rfl (y_p rfl) ?_)
    refine o_run rfl (e_val rfl (y_p rfl) ?_)
    refine o_run rfl (e_val rfl (y_p rfl) ?_)
    refine o_run rfl (e_val rfl (y_fa fo72_8 rfl) ?_)
    refine o_run rfl (e_st ty9 rfl rfl rfl rfl rfl rfl ?_)
    refine w_nil ?_
    refine q_then ?_
    refine w_seq ?_
    refine w_region ?_
    refine o_run rfl (e_val rfl (y_ld ty72 rfl rfl) ?_)
    refine o_run rfl (e_st ty72 rfl rfl rfl rfl rfl rfl ?_)
    refine w_nil ?_
    refine q_then ?_
    refine w_ret ?_
    refine r_cell1 [] rfl ty72 rfl rfl ?_
    -- leaf 2
    rfl

end Go.SL
