import Derived.Test.YtgefikehhcgdnaaGreatDoorRsn

/- The origin's helpers: contracts. No condition. -/
namespace Go.SL
open Go.Proofs
set_option maxRecDepth 10000


/-- A rule; a rule with the values of its slices. -/
structure Rl where
  pre : List UInt8
  code : Int
  fs : List Fld
  body : List UInt8
  wait : Int
  cut : Int
structure RV where
  r : Rl
  fv : Value
  bv : Value
abbrev encR (x : RV) : List Value := [str x.r.pre, int x.r.code, x.fv, x.bv, int x.r.wait, int x.r.cut]
theorem encR_len (x : RV) : (encR x).length = 6 := rfl
structure RlOk (r : Rl) : Prop where
  pre : r.pre.length ≤ 1000000000
  code : I64 r.code
  fs : FsW r.fs
  body : r.body.length ≤ 1000000000
  wait : I64 r.wait
  cut : I64 r.cut
structure RvAt (F : FH) (x : RV) : Prop where
  fs : SlAt F encF x.fv x.r.fs
  body : SlAt F encB x.bv x.r.body
theorem RvAt.mono {F G : FH} {x : RV} (h : RvAt F x) (hl : Le F G) : RvAt G x := ⟨h.fs.mono hl, h.body.mono hl⟩

theorem c_ownR (F : FH) (x : RV) (hx : RvAt F x) (hk : RlOk x.r) : Fn Tryz.prog 22 [.agg (encR x).toArray] F [] (fun r _ Γ' => ∃ fv bv Γf Γb, r = .agg (encR ⟨x.r, fv, bv⟩).toArray ∧ OwnF x.r.fs fv Γf ∧ OwnB x.r.body bv Γb ∧ Γ' = Γf ++ Γb) := by
  obtain ⟨⟨pre, code, fs, body, wait, cut⟩, fv, bv⟩ := x
  obtain ⟨h1, h2⟩ := hx
  obtain ⟨k1, k2, ⟨⟨k3, -, -⟩, -⟩, k5, k6, k7⟩ := hk
  dsimp only at h1 h2 k1 k2 k3 k5 k6 k7 ⊢
  refine fn_walk Tryz.func22 (by kernel_rfl) rfl rfl rfl ?_
  intro w0
  simp only [numb, List.map_nil, List.map_cons, Nat.zero_add, Nat.reduceAdd, List.cons_append, List.nil_append]
  refine w_seq ?_
  refine w_region ?_
  refine o_run rfl (e_box rfl rfl rfl (fun b1 => ?_))
  refine o_run rfl (e_alloc ty29 rfl rfl (fun b2 => ?_))
  refine w_nil ?_
  refine q_then ?_
  refine w_seq ?_
  refine w_drawA [1, 2, 5, 6, 8] mixed ?_
  refine a_val (i := 1) (listed' := #[false, true, false, false, false, false, false, false, false, false, false, false]) rfl rfl rfl (by kernel_rfl) (by kernel_rfl) (by kernel_rfl) rfl (by kernel_rfl) rfl (by repeat (first | exact np_post | refine np_then ?_ | refine np_in ?_)) (by first | (intro p hp; (repeat (first | exact hp | apply List.mem_cons_of_mem | apply List.mem_append_right)); done) | (repeat (first | exact in_nil | refine in_cons (by repeat (first | exact List.mem_cons_self | apply List.mem_cons_of_mem | apply List.mem_append_right)) ?_))) (by first | exact Le.refl _ | assumption | exact Le.trans ‹_› ‹_›) rfl (y_fa fo29_2 rfl) ?_
  refine a_val (i := 2) (listed' := #[false, true, true, false, false, false, false, false, false, false, false, false]) rfl rfl rfl (by kernel_rfl) (by kernel_rfl) (by kernel_rfl) rfl (by kernel_rfl) rfl (by repeat (first | exact np_post | refine np_then ?_ | refine np_in ?_)) (by first | (intro p hp; (repeat (first | exact hp | apply List.mem_cons_of_mem | apply List.mem_append_right)); done) | (repeat (first | exact in_nil | refine in_cons (by repeat (first | exact List.mem_cons_self | apply List.mem_cons_of_mem | apply List.mem_append_right)) ?_))) (by first | exact Le.refl _ | assumption | exact Le.trans ‹_› ‹_›) rfl (y_ld ty27 rfl rfl) ?_
  refine a_val (i := 5) (listed' := #[false, true, true, false, false, true, false, false, false, false, false, false]) rfl rfl rfl (by kernel_rfl) (by kernel_rfl) (by kernel_rfl) rfl (by kernel_rfl) rfl (by repeat (first | exact np_post | refine np_then ?_ | refine np_in ?_)) (by first | (intro p hp; (repeat (first | exact hp | apply List.mem_cons_of_mem | apply List.mem_append_right)); done) | (repeat (first | exact in_nil | refine in_cons (by repeat (first | exact List.mem_cons_self | apply List.mem_cons_of_mem | apply List.mem_append_right)) ?_))) (by first | exact Le.refl _ | assumption | exact Le.trans ‹_› ‹_›) rfl (y_fa fo29_3 rfl) ?_
  refine a_val (i := 6) (listed' := #[false, true, true, false, false, true, true, false, false, false, false, false]) rfl rfl rfl (by kernel_rfl) (by kernel_rfl) (by kernel_rfl) rfl (by kernel_rfl) rfl (by repeat (first | exact np_post | refine np_then ?_ | refine np_in ?_)) (by first | (intro p hp; (repeat (first | exact hp | apply List.mem_cons_of_mem | apply List.mem_append_right)); done) | (repeat (first | exact in_nil | refine in_cons (by repeat (first | exact List.mem_cons_self | apply List.mem_cons_of_mem | apply List.mem_append_right)) ?_))) (by first | exact Le.refl _ | assumption | exact Le.trans ‹_› ‹_›) rfl (y_ld ty22 rfl rfl) ?_
  refine a_two (i := 0) (j := 4) (l1 := #[true, true, true, false, false, true, true, false, false, false, false, false]) (l2 := #[false, true, true, false, true, true, true, false, false, false, false, false]) rfl rfl rfl rfl (by kernel_rfl) rfl rfl rfl rfl (.inr ⟨(by first | (intro p hp; (repeat (first | exact hp | apply List.mem_cons_of_mem | apply List.mem_append_right)); done) | (repeat (first | exact in_nil | refine in_cons (by repeat (first | exact List.mem_cons_self | apply List.mem_cons_of_mem | apply List.mem_append_right)) ?_))), (by first | exact Le.refl _ | assumption | exact Le.trans ‹_› ‹_›)⟩) ?_ ?_
  · refine e_bs0 ty27 ty57 rfl (fun b3 => ?_)
    refine a_two (i := 3) (j := 4) (l1 := #[true, true, true, true, false, true, true, false, false, false, false, false]) (l2 := #[true, true, true, false, true, true, true, false, false, false, false, false]) rfl rfl rfl rfl (by kernel_rfl) rfl rfl rfl rfl (.inr ⟨(by first | (intro p hp; (repeat (first | exact hp | apply List.mem_cons_of_mem | apply List.mem_append_right)); done) | (repeat (first | exact in_nil | refine in_cons (by repeat (first | exact List.mem_cons_self | apply List.mem_cons_of_mem | apply List.mem_append_right)) ?_))), (by first | exact Le.refl _ | assumption | exact Le.trans ‹_› ‹_›)⟩) ?_ ?_
    · refine e_appS ty27 ty27.u (.inl ⟨_, rfl⟩) ty57 rfl rfl rfl (Own.lit0 _ _ _) (Src.frozen encF_len h1) (flat_F fs) (by omega) (by decide) rfl (fun v1 Γ1 hO1 => ?_)
      have hO1 := Own.zero hO1
      obtain ⟨p1, c1, rfl⟩ := hO1.val
      refine a_val (i := 8) (listed' := #[true, true, true, true, false, true, true, false, true, false, false, false]) rfl rfl rfl (by kernel_rfl) (by kernel_rfl) (by kernel_rfl) rfl (by kernel_rfl) rfl (by repeat (first | exact np_post | refine np_then ?_ | refine np_in ?_)) (by first | (intro p hp; (repeat (first | exact hp | apply List.mem_cons_of_mem | apply List.mem_append_right)); done) | (repeat (first | exact in_nil | refine in_cons (by repeat (first | exact List.mem_cons_self | apply List.mem_cons_of_mem | apply List.mem_append_right)) ?_))) (by first | exact Le.refl _ | assumption | exact Le.trans ‹_› ‹_›) rfl (y_fa fo29_2 rfl) ?_
      refine a_one (i := 4) (listed' := #[true, true, true, true, true, true, true, false, true, false, false, false]) rfl rfl (by kernel_rfl) rfl rfl (.inr ⟨(by first | (intro p hp; (repeat (first | exact hp | apply List.mem_cons_of_mem | apply List.mem_append_right)); done) | (repeat (first | exact in_nil | refine in_cons (by repeat (first | exact List.mem_cons_self | apply List.mem_cons_of_mem | apply List.mem_append_right)) ?_))), (by first | exact Le.refl _ | assumption | exact Le.trans ‹_› ‹_›)⟩) (e_bs0 ty22 ty5 rfl (fun b7 => ?_))
      refine a_one (i := 7) (listed' := #[true, true, true, true, true, true, true, true, true, false, false, false]) rfl rfl (by kernel_rfl) rfl rfl (.inr ⟨(by first | (intro p hp; (repeat (first | exact hp | apply List.mem_cons_of_mem | apply List.mem_append_right)); done) | (repeat (first | exact in_nil | refine in_cons (by repeat (first | exact List.mem_cons_self | apply List.mem_cons_of_mem | apply List.mem_append_right)) ?_))), (by first | exact Le.refl _ | assumption | exact Le.trans ‹_› ‹_›)⟩) (e_appS ty22 ty22.u (.inl ⟨_, rfl⟩) ty5 rfl rfl rfl (Own.lit0 _ _ _) (Src.frozen (fun _ => rfl) h2) (flat_encB body) (by omega) (by decide) rfl (fun v2 Γ2 hO2 => ?_))
      have hO2 := Own.zero hO2
      obtain ⟨p2, c2, rfl⟩ := hO2.val
      refine a_one (i := 9) (listed' := #[true, true, true, true, true, true, true, true, true, true, false, false]) rfl rfl (by kernel_rfl) rfl rfl (.inr ⟨(by first | (intro p hp; (repeat (first | exact hp | apply List.mem_cons_of_mem | apply List.mem_append_right)); done) | (repeat (first | exact in_nil | refine in_cons (by repeat (first | exact List.mem_cons_self | apply List.mem_cons_of_mem | apply List.mem_append_right)) ?_))), (by first | exact Le.refl _ | assumption | exact Le.trans ‹_› ‹_›)⟩) (e_st ty27 rfl rfl rfl rfl rfl rfl ?_)
      refine a_one (i := 10) (listed' := #[true, true, true, true, true, true, true, true, true, true, true, false]) rfl rfl (by kernel_rfl) rfl rfl (.inl (by kernel_rfl)) (e_val rfl (y_fa fo29_3 rfl) ?_)
      refine a_one (i := 11) (listed' := #[true, true, true, true, true, true, true, true, true, true, true, true]) rfl rfl (by kernel_rfl) rfl rfl (.inl (by kernel_rfl)) (e_st ty22 rfl rfl rfl rfl rfl rfl ?_)
      refine a_done (by kernel_rfl) (by kernel_rfl) ?_
      refine q_then ?_
      refine w_seq ?_
      refine w_region ?_
      refine o_run rfl (e_val rfl (y_ld ty29 rfl rfl) ?_)
      refine o_run rfl (e_st ty29 rfl rfl rfl rfl rfl rfl ?_)
      refine w_nil ?_
      refine q_then ?_
      refine w_ret ?_
      refine r_cell2 Γ1 Γ2 rfl ty29 rfl rfl ?_
      -- leaf 1
      exact ⟨_, _, _, _, rfl, hO1, hO2, rfl⟩
    · refine e_bs0 ty22 ty5 rfl (fun b7 => ?_)
      refine a_one (i := 3) (listed' := #[true, true, true, true, true, true, true, false, false, false, false, false]) rfl rfl (by kernel_rfl) rfl rfl (.inr ⟨(by first | (intro p hp; (repeat (first | exact hp | apply List.mem_cons_of_mem | apply List.mem_append_right)); done) | (repeat (first | exact in_nil | refine in_cons (by repeat (first | exact List.mem_cons_self | apply List.mem_cons_of_mem | apply List.mem_append_right)) ?_))), (by first | exact Le.refl _ | assumption | exact Le.trans ‹_› ‹_›)⟩) (e_appS ty27 ty27.u (.inl ⟨_, rfl⟩) ty57 rfl rfl rfl (Own.lit0 _ _ _) (Src.frozen encF_len h1) (flat_F fs) (by omega) (by decide) rfl (fun v1 Γ1 hO1 => ?_))
      have hO1 := Own.zero hO1
      obtain ⟨p1, c1, rfl⟩ := hO1.val
      refine a_val (i := 8) (listed' := #[true, true, true, true, true, true, true, false, true, false, false, false]) rfl rfl rfl (by kernel_rfl) (by kernel_rfl) (by kernel_rfl) rfl (by kernel_rfl) rfl (by repeat (first | exact np_post | refine np_then ?_ | refine np_in ?_)) (by first | (intro p hp; (repeat (first | exact hp | apply List.mem_cons_of_mem | apply List.mem_append_right)); done) | (repeat (first | exact in_nil | refine in_cons (by repeat (first | exact List.mem_cons_self | apply List.mem_cons_of_mem | apply List.mem_append_right)) ?_))) (by first | exact Le.refl _ | assumption | exact Le.trans ‹_› ‹_›) rfl (y_fa fo29_2 rfl) ?_
      refine a_one (i := 7) (listed' := #[true, true, true, true, true, true, true, true, true, false, false, false]) rfl rfl (by kernel_rfl) rfl rfl (.inr ⟨(by first | (intro p hp; (repeat (first | exact hp | apply List.mem_cons_of_mem | apply List.mem_append_right)); done) | (repeat (first | exact in_nil | refine in_cons (by repeat (first | exact List.mem_cons_self | apply List.mem_cons_of_mem | apply List.mem_append_right)) ?_))), (by first | exact Le.refl _ | assumption | exact Le.trans ‹_› ‹_›)⟩) (e_appS ty22 ty22.u (.inl ⟨_, rfl⟩) ty5 rfl rfl rfl (Own.lit0 _ _ _) (Src.frozen (fun _ => rfl) h2) (flat_encB body) (by omega) (by decide) rfl (fun v2 Γ2 hO2 => ?_))
      have hO2 := Own.zero hO2
      obtain ⟨p2, c2, rfl⟩ := hO2.val
      refine a_one (i := 9) (listed' := #[true, true, true, true, true, true, true, true, true, true, false, false]) rfl rfl (by kernel_rfl) rfl rfl (.inr ⟨(by first | (intro p hp; (repeat (first | exact hp | apply List.mem_cons_of_mem | apply List.mem_append_right)); done) | (repeat (first | exact in_nil | refine in_cons (by repeat (first | exact List.mem_cons_self | apply List.mem_cons_of_mem | apply List.mem_append_right)) ?_))), (by first | exact Le.refl _ | assumption | exact Le.trans ‹_› ‹_›)⟩) (e_st ty27 rfl rfl rfl rfl rfl rfl ?_)
      refine a_one (i := 10) (listed' := #[true, true, true, true, true, true, true, true, true, true, true, false]) rfl rfl (by kernel_rfl) rfl rfl (.inl (by kernel_rfl)) (e_val rfl (y_fa fo29_3 rfl) ?_)
      refine a_one (i := 11) (listed' := #[true, true, true, true, true, true, true, true, true, true, true, true]) rfl rfl (by kernel_rfl) rfl rfl (.inl (by kernel_rfl)) (e_st ty22 rfl rfl rfl rfl rfl rfl ?_)
      refine a_done (by kernel_rfl) (by kernel_rfl) ?_
      refine q_then ?_
      refine w_seq ?_
      refine w_region ?_
      refine o_run rfl (e_val rfl (y_ld ty29 rfl rfl) ?_)
      refine o_run rfl (e_st ty29 rfl rfl rfl rfl rfl rfl ?_)
      refine w_nil ?_
      refine q_then ?_
      refine w_ret ?_
      refine r_cell2 Γ1 Γ2 rfl ty29 rfl rfl ?_
      -- leaf 2
      exact ⟨_, _, _, _, rfl, hO1, hO2, rfl⟩
  · refine e_bs0 ty22 ty5 rfl (fun b7 => ?_)
    refine a_one (i := 0) (listed' := #[true, true, true, false, true, true, true, false, false, false, false, false]) rfl rfl (by kernel_rfl) rfl rfl (.inr ⟨(by first | (intro p hp; (repeat (first | exact hp | apply List.mem_cons_of_mem | apply List.mem_append_right)); done) | (repeat (first | exact in_nil | refine in_cons (by repeat (first | exact List.mem_cons_self | apply List.mem_cons_of_mem | apply List.mem_append_right)) ?_))), (by first | exact Le.refl _ | assumption | exact Le.trans ‹_› ‹_›)⟩) (e_bs0 ty27 ty57 rfl (fun b3 => ?_))
    refine a_one (i := 3) (listed' := #[true, true, true, true, true, true, true, false, false, false, false, false]) rfl rfl (by kernel_rfl) rfl rfl (.inr ⟨(by first | (intro p hp; (repeat (first | exact hp | apply List.mem_cons_of_mem | apply List.mem_append_right)); done) | (repeat (first | exact in_nil | refine in_cons (by repeat (first | exact List.mem_cons_self | apply List.mem_cons_of_mem | apply List.mem_append_right)) ?_))), (by first | exact Le.refl _ | assumption | exact Le.trans ‹_› ‹_›)⟩) (e_appS ty27 ty27.u (.inl ⟨_, rfl⟩) ty57 rfl rfl rfl (Own.lit0 _ _ _) (Src.frozen encF_len h1) (flat_F fs) (by omega) (by decide) rfl (fun v1 Γ1 hO1 => ?_))
    have hO1 := Own.zero hO1
    obtain ⟨p1, c1, rfl⟩ := hO1.val
    refine a_val (i := 8) (listed' := #[true, true, true, true, true, true, true, false, true, false, false, false]) rfl rfl rfl (by kernel_rfl) (by kernel_rfl) (by kernel_rfl) rfl (by kernel_rfl) rfl (by repeat (first | exact np_post | refine np_then ?_ | refine np_in ?_)) (by first | (intro p hp; (repeat (first | exact hp | apply List.mem_cons_of_mem | apply List.mem_append_right)); done) | (repeat (first | exact in_nil | refine in_cons (by repeat (first | exact List.mem_cons_self | apply List.mem_cons_of_mem | apply List.mem_append_right)) ?_))) (by first | exact Le.refl _ | assumption | exact Le.trans ‹_› ‹_›) rfl (y_fa fo29_2 rfl) ?_
    refine a_one (i := 7) (listed' := #[true, true, true, true, true, true, true, true, true, false, false, false]) rfl rfl (by kernel_rfl) rfl rfl (.inr ⟨(by first | (intro p hp; (repeat (first | exact hp | apply List.mem_cons_of_mem | apply List.mem_append_right)); done) | (repeat (first | exact in_nil | refine in_cons (by repeat (first | exact List.mem_cons_self | apply List.mem_cons_of_mem | apply List.mem_append_right)) ?_))), (by first | exact Le.refl _ | assumption | exact Le.trans ‹_› ‹_›)⟩) (e_appS ty22 ty22.u (.inl ⟨_, rfl⟩) ty5 rfl rfl rfl (Own.lit0 _ _ _) (Src.frozen (fun _ => rfl) h2) (flat_encB body) (by omega) (by decide) rfl (fun v2 Γ2 hO2 => ?_))
    have hO2 := Own.zero hO2
    obtain ⟨p2, c2, rfl⟩ := hO2.val
    refine a_one (i := 9) (listed' := #[true, true, true, true, true, true, true, true, true, true, false, false]) rfl rfl (by kernel_rfl) rfl rfl (.inr ⟨(by first | (intro p hp; (repeat (first | exact hp | apply List.mem_cons_of_mem | apply List.mem_append_right)); done) | (repeat (first | exact in_nil | refine in_cons (by repeat (first | exact List.mem_cons_self | apply List.mem_cons_of_mem | apply List.mem_append_right)) ?_))), (by first | exact Le.refl _ | assumption | exact Le.trans ‹_› ‹_›)⟩) (e_st ty27 rfl rfl rfl rfl rfl rfl ?_)
    refine a_one (i := 10) (listed' := #[true, true, true, true, true, true, true, true, true, true, true, false]) rfl rfl (by kernel_rfl) rfl rfl (.inl (by kernel_rfl)) (e_val rfl (y_fa fo29_3 rfl) ?_)
    refine a_one (i := 11) (listed' := #[true, true, true, true, true, true, true, true, true, true, true, true]) rfl rfl (by kernel_rfl) rfl rfl (.inl (by kernel_rfl)) (e_st ty22 rfl rfl rfl rfl rfl rfl ?_)
    refine a_done (by kernel_rfl) (by kernel_rfl) ?_
    refine q_then ?_
    refine w_seq ?_
    refine w_region ?_
    refine o_run rfl (e_val rfl (y_ld ty29 rfl rfl) ?_)
    refine o_run rfl (e_st ty29 rfl rfl rfl rfl rfl rfl ?_)
    refine w_nil ?_
    refine q_then ?_
    refine w_ret ?_
    refine r_cell2 Γ1 Γ2 rfl ty29 rfl rfl ?_
    -- leaf 3
    exact ⟨_, _, _, _, rfl, hO1, hO2, rfl⟩

theorem c_headOf (F : FH) (x : RV) (hx : RvAt F x) (hk : RlOk x.r) : Fn Tryz.prog 24 [.agg (encR x).toArray] F [] (fun r _ Γ' => ∃ fv, r = .agg #[int 1, int x.r.code, str (reasonL x.r.code), fv] ∧ OwnF x.r.fs fv Γ') := by
  obtain ⟨⟨pre, code, fs, body, wait, cut⟩, fv, bv⟩ := x
  obtain ⟨h1, h2⟩ := hx
  obtain ⟨k1, k2, ⟨⟨k3, -, -⟩, -⟩, k5, k6, k7⟩ := hk
  dsimp only at h1 h2 k1 k2 k3 k5 k6 k7 ⊢
  refine fn_walk Tryz.func24 (by kernel_rfl) rfl rfl rfl ?_
  intro w0
  simp only [numb, List.map_nil, List.map_cons, Nat.zero_add, Nat.reduceAdd, List.cons_append, List.nil_append]
  refine w_seq ?_
  refine w_region ?_
  refine o_run rfl (e_box rfl rfl rfl (fun b1 => ?_))
  refine o_run rfl (e_alloc ty32 rfl rfl (fun b2 => ?_))
  refine w_nil ?_
  refine q_then ?_
  refine w_seq ?_
  refine w_drawA [0, 1, 2, 3, 6, 7] mixed ?_
  refine a_val (i := 0) (listed' := #[true, false, false, false, false, false, false, false, false, false, false]) rfl rfl rfl (by kernel_rfl) (by kernel_rfl) (by kernel_rfl) rfl (by kernel_rfl) rfl (by repeat (first | exact np_post | refine np_then ?_ | refine np_in ?_)) (by first | (intro p hp; (repeat (first | exact hp | apply List.mem_cons_of_mem | apply List.mem_append_right)); done) | (repeat (first | exact in_nil | refine in_cons (by repeat (first | exact List.mem_cons_self | apply List.mem_cons_of_mem | apply List.mem_append_right)) ?_))) (by first | exact Le.refl _ | assumption | exact Le.trans ‹_› ‹_›) rfl (y_fa fo29_1 rfl) ?_
  refine a_val (i := 1) (listed' := #[true, true, false, false, false, false, false, false, false, false, false]) rfl rfl rfl (by kernel_rfl) (by kernel_rfl) (by kernel_rfl) rfl (by kernel_rfl) rfl (by repeat (first | exact np_post | refine np_then ?_ | refine np_in ?_)) (by first | (intro p hp; (repeat (first | exact hp | apply List.mem_cons_of_mem | apply List.mem_append_right)); done) | (repeat (first | exact in_nil | refine in_cons (by repeat (first | exact List.mem_cons_self | apply List.mem_cons_of_mem | apply List.mem_append_right)) ?_))) (by first | exact Le.refl _ | assumption | exact Le.trans ‹_› ‹_›) rfl (y_ld ty3 rfl rfl) ?_
  refine a_val (i := 2) (listed' := #[true, true, true, false, false, false, false, false, false, false, false]) rfl rfl rfl (by kernel_rfl) (by kernel_rfl) (by kernel_rfl) rfl (by kernel_rfl) rfl (by repeat (first | exact np_post | refine np_then ?_ | refine np_in ?_)) (by first | (intro p hp; (repeat (first | exact hp | apply List.mem_cons_of_mem | apply List.mem_append_right)); done) | (repeat (first | exact in_nil | refine in_cons (by repeat (first | exact List.mem_cons_self | apply List.mem_cons_of_mem | apply List.mem_append_right)) ?_))) (by first | exact Le.refl _ | assumption | exact Le.trans ‹_› ‹_›) rfl (y_fa fo29_1 rfl) ?_
  refine a_val (i := 3) (listed' := #[true, true, true, true, false, false, false, false, false, false, false]) rfl rfl rfl (by kernel_rfl) (by kernel_rfl) (by kernel_rfl) rfl (by kernel_rfl) rfl (by repeat (first | exact np_post | refine np_then ?_ | refine np_in ?_)) (by first | (intro p hp; (repeat (first | exact hp | apply List.mem_cons_of_mem | apply List.mem_append_right)); done) | (repeat (first | exact in_nil | refine in_cons (by repeat (first | exact List.mem_cons_self | apply List.mem_cons_of_mem | apply List.mem_append_right)) ?_))) (by first | exact Le.refl _ | assumption | exact Le.trans ‹_› ‹_›) rfl (y_ld ty3 rfl rfl) ?_
  refine a_val (i := 6) (listed' := #[true, true, true, true, false, false, true, false, false, false, false]) rfl rfl rfl (by kernel_rfl) (by kernel_rfl) (by kernel_rfl) rfl (by kernel_rfl) rfl (by repeat (first | exact np_post | refine np_then ?_ | refine np_in ?_)) (by first | (intro p hp; (repeat (first | exact hp | apply List.mem_cons_of_mem | apply List.mem_append_right)); done) | (repeat (first | exact in_nil | refine in_cons (by repeat (first | exact List.mem_cons_self | apply List.mem_cons_of_mem | apply List.mem_append_right)) ?_))) (by first | exact Le.refl _ | assumption | exact Le.trans ‹_› ‹_›) rfl (y_fa fo29_2 rfl) ?_
  refine a_val (i := 7) (listed' := #[true, true, true, true, false, false, true, true, false, false, false]) rfl rfl rfl (by kernel_rfl) (by kernel_rfl) (by kernel_rfl) rfl (by kernel_rfl) rfl (by repeat (first | exact np_post | refine np_then ?_ | refine np_in ?_)) (by first | (intro p hp; (repeat (first | exact hp | apply List.mem_cons_of_mem | apply List.mem_append_right)); done) | (repeat (first | exact in_nil | refine in_cons (by repeat (first | exact List.mem_cons_self | apply List.mem_cons_of_mem | apply List.mem_append_right)) ?_))) (by first | exact Le.refl _ | assumption | exact Le.trans ‹_› ‹_›) rfl (y_ld ty27 rfl rfl) ?_
  refine a_two (i := 4) (j := 5) (l1 := #[true, true, true, true, true, false, true, true, false, false, false]) (l2 := #[true, true, true, true, false, true, true, true, false, false, false]) rfl rfl rfl rfl (by kernel_rfl) rfl rfl rfl rfl (.inr ⟨(by first | (intro p hp; (repeat (first | exact hp | apply List.mem_cons_of_mem | apply List.mem_append_right)); done) | (repeat (first | exact in_nil | refine in_cons (by repeat (first | exact List.mem_cons_self | apply List.mem_cons_of_mem | apply List.mem_append_right)) ?_))), (by first | exact Le.refl _ | assumption | exact Le.trans ‹_› ‹_›)⟩) ?_ ?_
  · refine e_callV rfl rfl (c_Reason _ _) rfl ?_
    refine a_one (i := 5) (listed' := #[true, true, true, true, true, true, true, true, false, false, false]) rfl rfl (by kernel_rfl) rfl rfl (.inr ⟨(by first | (intro p hp; (repeat (first | exact hp | apply List.mem_cons_of_mem | apply List.mem_append_right)); done) | (repeat (first | exact in_nil | refine in_cons (by repeat (first | exact List.mem_cons_self | apply List.mem_cons_of_mem | apply List.mem_append_right)) ?_))), (by first | exact Le.refl _ | assumption | exact Le.trans ‹_› ‹_›)⟩) (e_bs0 ty27 ty57 rfl (fun b8 => ?_))
    refine a_one (i := 8) (listed' := #[true, true, true, true, true, true, true, true, true, false, false]) rfl rfl (by kernel_rfl) rfl rfl (.inr ⟨(by first | (intro p hp; (repeat (first | exact hp | apply List.mem_cons_of_mem | apply List.mem_append_right)); done) | (repeat (first | exact in_nil | refine in_cons (by repeat (first | exact List.mem_cons_self | apply List.mem_cons_of_mem | apply List.mem_append_right)) ?_))), (by first | exact Le.refl _ | assumption | exact Le.trans ‹_› ‹_›)⟩) (e_appS ty27 ty27.u (.inl ⟨_, rfl⟩) ty57 rfl rfl rfl (Own.lit0 _ _ _) (Src.frozen encF_len h1) (flat_F fs) (by omega) (by decide) rfl (fun v1 Γ1 hO1 => ?_))
    have hO1 := Own.zero hO1
    obtain ⟨p1, c1, rfl⟩ := hO1.val
    refine a_one (i := 9) (listed' := #[true, true, true, true, true, true, true, true, true, true, false]) rfl rfl (by kernel_rfl) rfl rfl (.inr ⟨(by first | (intro p hp; (repeat (first | exact hp | apply List.mem_cons_of_mem | apply List.mem_append_right)); done) | (repeat (first | exact in_nil | refine in_cons (by repeat (first | exact List.mem_cons_self | apply List.mem_cons_of_mem | apply List.mem_append_right)) ?_))), (by first | exact Le.refl _ | assumption | exact Le.trans ‹_› ‹_›)⟩) (e_val rfl (y_build pl32 rfl rfl) ?_)
    refine a_one (i := 10) (listed' := #[true, true, true, true, true, true, true, true, true, true, true]) rfl rfl (by kernel_rfl) rfl rfl (.inl (by kernel_rfl)) (e_st ty32 rfl rfl rfl rfl rfl rfl ?_)
    refine a_done (by kernel_rfl) (by kernel_rfl) ?_
    refine q_then ?_
    refine w_ret ?_
    refine r_cell1 Γ1 rfl ty32 rfl rfl ?_
    -- leaf 1
    exact ⟨_, rfl, hO1⟩
  · refine e_bs0 ty27 ty57 rfl (fun b8 => ?_)
    refine a_one (i := 4) (listed' := #[true, true, true, true, true, true, true, true, false, false, false]) rfl rfl (by kernel_rfl) rfl rfl (.inr ⟨(by first | (intro p hp; (repeat (first | exact hp | apply List.mem_cons_of_mem | apply List.mem_append_right)); done) | (repeat (first | exact in_nil | refine in_cons (by repeat (first | exact List.mem_cons_self | apply List.mem_cons_of_mem | apply List.mem_append_right)) ?_))), (by first | exact Le.refl _ | assumption | exact Le.trans ‹_› ‹_›)⟩) (e_callV rfl rfl (c_Reason _ _) rfl ?_)
    refine a_one (i := 8) (listed' := #[true, true, true, true, true, true, true, true, true, false, false]) rfl rfl (by kernel_rfl) rfl rfl (.inr ⟨(by first | (intro p hp; (repeat (first | exact hp | apply List.mem_cons_of_mem | apply List.mem_append_right)); done) | (repeat (first | exact in_nil | refine in_cons (by repeat (first | exact List.mem_cons_self | apply List.mem_cons_of_mem | apply List.mem_append_right)) ?_))), (by first | exact Le.refl _ | assumption | exact Le.trans ‹_› ‹_›)⟩) (e_appS ty27 ty27.u (.inl ⟨_, rfl⟩) ty57 rfl rfl rfl (Own.lit0 _ _ _) (Src.frozen encF_len h1) (flat_F fs) (by omega) (by decide) rfl (fun v1 Γ1 hO1 => ?_))
    have hO1 := Own.zero hO1
    obtain ⟨p1, c1, rfl⟩ := hO1.val
    refine a_one (i := 9) (listed' := #[true, true, true, true, true, true, true, true, true, true, false]) rfl rfl (by kernel_rfl) rfl rfl (.inr ⟨(by first | (intro p hp; (repeat (first | exact hp | apply List.mem_cons_of_mem | apply List.mem_append_right)); done) | (repeat (first | exact in_nil | refine in_cons (by repeat (first | exact List.mem_cons_self | apply List.mem_cons_of_mem | apply List.mem_append_right)) ?_))), (by first | exact Le.refl _ | assumption | exact Le.trans ‹_› ‹_›)⟩) (e_val rfl (y_build pl32 rfl rfl) ?_)
    refine a_one (i := 10) (listed' := #[true, true, true, true, true, true, true, true, true, true, true]) rfl rfl (by kernel_rfl) rfl rfl (.inl (by kernel_rfl)) (e_st ty32 rfl rfl rfl rfl rfl rfl ?_)
    refine a_done (by kernel_rfl) (by kernel_rfl) ?_
    refine q_then ?_
    refine w_ret ?_
    refine r_cell1 Γ1 rfl ty32 rfl rfl ?_
    -- leaf 2
    exact ⟨_, rfl, hO1⟩


def mayB (r : Rl) : Bool := decide ((200 ≤ r.code ∧ r.code ≤ 599 ∧ 0 ≤ r.wait ∧ r.wait ≤ 1000 ∧ r.body.length ≤ 1048576) ∧ (respS 1 r.code (reasonL r.code) r.fs r.body getN).2 = 0)

theorem c_mayR (F : FH) (hG : Glob F) (x : RV) (hx : RvAt F x) (hk : RlOk x.r) : FnV Tryz.prog 21 [.agg (encR x).toArray] F (.bool (mayB x.r)) := by
  have hx0 := hx
  have hk0 := hk
  obtain ⟨⟨pre, code, fs, body, wait, cut⟩, fv, bv⟩ := x
  obtain ⟨q1, q2⟩ := hx
  obtain ⟨k1, k2, k3, k5, k6, k7⟩ := hk
  obtain ⟨ab, cb, hbv, -⟩ := q2.at
  dsimp only at q1 q2 k1 k2 k3 k5 k6 k7 hbv ⊢
  subst hbv
  have hrl := reasonL_len code
  obtain ⟨k21, k22⟩ := id k2
  refine fn_walk Tryz.func21 (by kernel_rfl) rfl rfl rfl ?_
  intro w0
  simp only [numb, List.map_nil, List.map_cons, Nat.zero_add, Nat.reduceAdd, List.cons_append, List.nil_append]
  refine w_seq ?_
  refine w_region ?_
  refine o_run rfl (e_box rfl rfl rfl (fun b1 => ?_))
  refine o_run rfl (e_val rfl (y_p rfl) ?_)
  refine w_nil ?_
  refine q_then ?_
  refine w_seq ?_
  refine w_seq ?_
  refine w_region ?_
  refine o_run rfl (e_val rfl (y_fa fo29_1 rfl) ?_)
  refine o_run rfl (e_val rfl (y_ld ty3 rfl rfl) ?_)
  refine o_run rfl (e_val rfl (y_p rfl) ?_)
  refine o_run rfl (e_val rfl (y_p rfl) ?_)
  first | refine PW.wayD (t := 8) rfl rfl (fun h1 => ?_) (fun h1 => ?_) | refine PW.way (t := 8) rfl rfl (fun h1 => ?_) (fun h1 => ?_)
  · refine g_no rfl rfl rfl rfl ?_
    refine g_no rfl rfl rfl rfl ?_
    refine g_no rfl rfl rfl rfl ?_
    refine o_run rfl (e_val rfl (y_p rfl) ?_)
    refine o_run rfl (e_val rfl (y_p rfl) ?_)
    refine g_no rfl rfl rfl rfl ?_
    refine g_no rfl rfl rfl rfl ?_
    refine g_no rfl rfl rfl rfl ?_
    refine o_run rfl (e_val rfl (y_p rfl) ?_)
    refine o_run rfl (e_val rfl (y_p rfl) ?_)
    refine g_no rfl rfl rfl rfl ?_
    refine g_no rfl rfl rfl rfl ?_
    refine g_no rfl rfl rfl rfl ?_
    refine o_run rfl (e_val rfl (y_p rfl) ?_)
    refine o_run rfl (e_val rfl (y_p rfl) ?_)
    refine g_no rfl rfl rfl rfl ?_
    refine g_no rfl rfl rfl rfl ?_
    refine g_no rfl rfl rfl rfl ?_
    refine g_no rfl rfl rfl rfl ?_
    refine o_run rfl (e_val rfl (y_p rfl) ?_)
    refine w_nil ?_
    refine q_then ?_
    refine w_condT rfl ?_
    refine w_seq ?_
    refine w_region ?_
    refine o_run rfl (e_val rfl (y_p rfl) ?_)
    refine w_nil ?_
    refine q_then ?_
    refine w_ret ?_
    refine q_thenR ?_
    refine PW.clear ?_
    refine r_one rfl rfl ?_
    -- leaf 1
    dsimp only at *
    exact congrArg Value.bool (decide_eq_false (fun hh => by dsimp only at hh; omega)).symm
  · refine o_yes rfl rfl rfl (e_val rfl (y_fa fo29_1 rfl) ?_)
    refine o_yes rfl rfl rfl (e_val rfl (y_ld ty3 rfl rfl) ?_)
    refine o_yes rfl rfl rfl (e_val rfl (y_p rfl) ?_)
    refine o_run rfl (e_val rfl (y_p rfl) ?_)
    refine o_run rfl (e_val rfl (y_p rfl) ?_)
    first | refine PW.wayD (t := 13) rfl rfl (fun h2 => ?_) (fun h2 => ?_) | refine PW.way (t := 13) rfl rfl (fun h2 => ?_) (fun h2 => ?_)
    · refine g_no rfl rfl rfl rfl ?_
      refine g_no rfl rfl rfl rfl ?_
      refine g_no rfl rfl rfl rfl ?_
      refine o_run rfl (e_val rfl (y_p rfl) ?_)
      refine o_run rfl (e_val rfl (y_p rfl) ?_)
      refine g_no rfl rfl rfl rfl ?_
      refine g_no rfl rfl rfl rfl ?_
      refine g_no rfl rfl rfl rfl ?_
      refine o_run rfl (e_val rfl (y_p rfl) ?_)
      refine o_run rfl (e_val rfl (y_p rfl) ?_)
      refine g_no rfl rfl rfl rfl ?_
      refine g_no rfl rfl rfl rfl ?_
      refine g_no rfl rfl rfl rfl ?_
      refine g_no rfl rfl rfl rfl ?_
      refine o_run rfl (e_val rfl (y_p rfl) ?_)
      refine w_nil ?_
      refine q_then ?_
      refine w_condT rfl ?_
      refine w_seq ?_
      refine w_region ?_
      refine o_run rfl (e_val rfl (y_p rfl) ?_)
      refine w_nil ?_
      refine q_then ?_
      refine w_ret ?_
      refine q_thenR ?_
      refine PW.clear ?_
      refine r_one rfl rfl ?_
      -- leaf 2
      dsimp only at *
      exact congrArg Value.bool (decide_eq_false (fun hh => by dsimp only at hh; omega)).symm
    · refine o_yes rfl rfl rfl (e_val rfl (y_fa fo29_4 rfl) ?_)
      refine o_yes rfl rfl rfl (e_val rfl (y_ld ty3 rfl rfl) ?_)
      refine o_yes rfl rfl rfl (e_val rfl (y_p rfl) ?_)
      refine o_run rfl (e_val rfl (y_p rfl) ?_)
      refine o_run rfl (e_val rfl (y_p rfl) ?_)
      first | refine PW.wayD (t := 18) rfl rfl (fun h3 => ?_) (fun h3 => ?_) | refine PW.way (t := 18) rfl rfl (fun h3 => ?_) (fun h3 => ?_)
      · refine g_no rfl rfl rfl rfl ?_
        refine g_no rfl rfl rfl rfl ?_
        refine g_no rfl rfl rfl rfl ?_
        refine o_run rfl (e_val rfl (y_p rfl) ?_)
        refine o_run rfl (e_val rfl (y_p rfl) ?_)
        refine g_no rfl rfl rfl rfl ?_
        refine g_no rfl rfl rfl rfl ?_
        refine g_no rfl rfl rfl rfl ?_
        refine g_no rfl rfl rfl rfl ?_
        refine o_run rfl (e_val rfl (y_p rfl) ?_)
        refine w_nil ?_
        refine q_then ?_
        refine w_condT rfl ?_
        refine w_seq ?_
        refine w_region ?_
        refine o_run rfl (e_val rfl (y_p rfl) ?_)
        refine w_nil ?_
        refine q_then ?_
        refine w_ret ?_
        refine q_thenR ?_
        refine PW.clear ?_
        refine r_one rfl rfl ?_
        -- leaf 3
        dsimp only at *
        exact congrArg Value.bool (decide_eq_false (fun hh => by dsimp only at hh; omega)).symm
      · refine o_yes rfl rfl rfl (e_val rfl (y_fa fo29_4 rfl) ?_)
        refine o_yes rfl rfl rfl (e_val rfl (y_ld ty3 rfl rfl) ?_)
        refine o_yes rfl rfl rfl (e_val rfl (y_p rfl) ?_)
        refine o_run rfl (e_val rfl (y_p rfl) ?_)
        refine o_run rfl (e_val rfl (y_p rfl) ?_)
        first | refine PW.wayD (t := 23) rfl rfl (fun h4 => ?_) (fun h4 => ?_) | refine PW.way (t := 23) rfl rfl (fun h4 => ?_) (fun h4 => ?_)
        · refine g_no rfl rfl rfl rfl ?_
          refine g_no rfl rfl rfl rfl ?_
          refine g_no rfl rfl rfl rfl ?_
          refine g_no rfl rfl rfl rfl ?_
          refine o_run rfl (e_val rfl (y_p rfl) ?_)
          refine w_nil ?_
          refine q_then ?_
          refine w_condT rfl ?_
          refine w_seq ?_
          refine w_region ?_
          refine o_run rfl (e_val rfl (y_p rfl) ?_)
          refine w_nil ?_
          refine q_then ?_
          refine w_ret ?_
          refine q_thenR ?_
          refine PW.clear ?_
          refine r_one rfl rfl ?_
          -- leaf 4
          dsimp only at *
          exact congrArg Value.bool (decide_eq_false (fun hh => by dsimp only at hh; omega)).symm
        · refine o_yes rfl rfl rfl (e_val rfl (y_fa fo29_3 rfl) ?_)
          refine o_yes rfl rfl rfl (e_val rfl (y_ld ty22 rfl rfl) ?_)
          refine o_yes rfl rfl rfl (e_val rfl (y_lenL ty22 rfl) ?_)
          refine o_yes rfl rfl rfl (e_val rfl (y_p rfl) ?_)
          refine o_run rfl (e_val rfl (y_p rfl) ?_)
          refine w_nil ?_
          refine q_then ?_
          first | refine w_condD rfl (fun h5 => ?_) (fun h5 => ?_) | refine w_condN rfl (fun h5 => ?_) (fun h5 => ?_) | refine w_cond rfl (fun h5 => ?_) (fun h5 => ?_)
          · refine w_seq ?_
            refine w_region ?_
            refine o_run rfl (e_val rfl (y_p rfl) ?_)
            refine w_nil ?_
            refine q_then ?_
            refine w_ret ?_
            refine q_thenR ?_
            refine PW.clear ?_
            refine r_one rfl rfl ?_
            -- leaf 5
            dsimp only at *
            exact congrArg Value.bool (decide_eq_false (fun hh => by dsimp only at hh; omega)).symm
          · refine w_skip ?_
            refine q_then ?_
            refine w_seq ?_
            refine w_drawA [0, 2, 3, 6, 7, 8] mixed ?_
            refine a_val (i := 0) (listed' := #[true, false, false, false, false, false, false, false, false, false]) rfl rfl rfl (by kernel_rfl) (by kernel_rfl) (by kernel_rfl) rfl (by kernel_rfl) rfl (by repeat (first | exact np_post | refine np_then ?_ | refine np_in ?_)) (by first | (intro p hp; (repeat (first | exact hp | apply List.mem_cons_of_mem | apply List.mem_append_right)); done) | (repeat (first | exact in_nil | refine in_cons (by repeat (first | exact List.mem_cons_self | apply List.mem_cons_of_mem | apply List.mem_append_right)) ?_))) (by first | exact Le.refl _ | assumption | exact Le.trans ‹_› ‹_›) rfl (y_ld ty29 rfl rfl) ?_
            refine a_val (i := 2) (listed' := #[true, false, true, false, false, false, false, false, false, false]) rfl rfl rfl (by kernel_rfl) (by kernel_rfl) (by kernel_rfl) rfl (by kernel_rfl) rfl (by repeat (first | exact np_post | refine np_then ?_ | refine np_in ?_)) (by first | (intro p hp; (repeat (first | exact hp | apply List.mem_cons_of_mem | apply List.mem_append_right)); done) | (repeat (first | exact in_nil | refine in_cons (by repeat (first | exact List.mem_cons_self | apply List.mem_cons_of_mem | apply List.mem_append_right)) ?_))) (by first | exact Le.refl _ | assumption | exact Le.trans ‹_› ‹_›) rfl (y_fa fo29_3 rfl) ?_
            refine a_val (i := 3) (listed' := #[true, false, true, true, false, false, false, false, false, false]) rfl rfl rfl (by kernel_rfl) (by kernel_rfl) (by kernel_rfl) rfl (by kernel_rfl) rfl (by repeat (first | exact np_post | refine np_then ?_ | refine np_in ?_)) (by first | (intro p hp; (repeat (first | exact hp | apply List.mem_cons_of_mem | apply List.mem_append_right)); done) | (repeat (first | exact in_nil | refine in_cons (by repeat (first | exact List.mem_cons_self | apply List.mem_cons_of_mem | apply List.mem_append_right)) ?_))) (by first | exact Le.refl _ | assumption | exact Le.trans ‹_› ‹_›) rfl (y_ld ty22 rfl rfl) ?_
            refine a_one (i := 1) (listed' := #[true, true, true, true, false, false, false, false, false, false]) rfl rfl (by kernel_rfl) rfl rfl (.inr ⟨(by first | (intro p hp; (repeat (first | exact hp | apply List.mem_cons_of_mem | apply List.mem_append_right)); done) | (repeat (first | exact in_nil | refine in_cons (by repeat (first | exact List.mem_cons_self | apply List.mem_cons_of_mem | apply List.mem_append_right)) ?_))), (by first | exact Le.refl _ | assumption | exact Le.trans ‹_› ‹_›)⟩) (e_call rfl rfl (c_headOf _ _ hx0 hk0) (List.Perm.refl _) rfl (fun r1 F1 Γ1 hR1 hF1 => ?_))
            obtain ⟨fv1, rfl, hO1⟩ := hR1
            refine PW.freezeOwn hO1 (List.Perm.refl _) (fun F2 hF2 hS1 => ?_)
            have hF02 := hF1.trans hF2
            refine a_one (i := 4) (listed' := #[true, true, true, true, true, false, false, false, false, false]) rfl rfl (by kernel_rfl) rfl rfl (.inr ⟨(by first | (intro p hp; (repeat (first | exact hp | apply List.mem_cons_of_mem | apply List.mem_append_right)); done) | (repeat (first | exact in_nil | refine in_cons (by repeat (first | exact List.mem_cons_self | apply List.mem_cons_of_mem | apply List.mem_append_right)) ?_))), (by first | exact Le.refl _ | assumption | exact Le.trans ‹_› ‹_›)⟩) (e_call rfl rfl (c_WriteResponse _ (hG.mono hF02) 1 code (reasonL code) body getN fv1 _ fs (by decide) k2 (by omega) hS1 k3 (q2.mono hF02) k5) (List.Perm.refl _) rfl (fun r2 F3 Γ3 hR3 hF3 => ?_))
            obtain ⟨v3, rfl, hS3, rfl⟩ := hR3
            refine a_one (i := 5) (listed' := #[true, true, true, true, true, true, false, false, false, false]) rfl rfl (by kernel_rfl) rfl rfl (.inr ⟨(by first | (intro p hp; (repeat (first | exact hp | apply List.mem_cons_of_mem | apply List.mem_append_right)); done) | (repeat (first | exact in_nil | refine in_cons (by repeat (first | exact List.mem_cons_self | apply List.mem_cons_of_mem | apply List.mem_append_right)) ?_))), (by first | exact Le.refl _ | assumption | exact Le.trans ‹_› ‹_›)⟩) (e_val rfl (y_p rfl) ?_)
            refine a_val (i := 6) (listed' := #[true, true, true, true, true, true, true, false, false, false]) rfl rfl rfl (by kernel_rfl) (by kernel_rfl) (by kernel_rfl) rfl (by kernel_rfl) rfl (by repeat (first | exact np_post | refine np_then ?_ | refine np_in ?_)) (by first | (intro p hp; (repeat (first | exact hp | apply List.mem_cons_of_mem | apply List.mem_append_right)); done) | (repeat (first | exact in_nil | refine in_cons (by repeat (first | exact List.mem_cons_self | apply List.mem_cons_of_mem | apply List.mem_append_right)) ?_))) (by first | exact Le.refl _ | assumption | exact Le.trans ‹_› ‹_›) rfl (y_p rfl) ?_
            refine a_val (i := 7) (listed' := #[true, true, true, true, true, true, true, true, false, false]) rfl rfl rfl (by kernel_rfl) (by kernel_rfl) (by kernel_rfl) rfl (by kernel_rfl) rfl (by repeat (first | exact np_post | refine np_then ?_ | refine np_in ?_)) (by first | (intro p hp; (repeat (first | exact hp | apply List.mem_cons_of_mem | apply List.mem_append_right)); done) | (repeat (first | exact in_nil | refine in_cons (by repeat (first | exact List.mem_cons_self | apply List.mem_cons_of_mem | apply List.mem_append_right)) ?_))) (by first | exact Le.refl _ | assumption | exact Le.trans ‹_› ‹_›) rfl (y_p rfl) ?_
            refine a_val (i := 8) (listed' := #[true, true, true, true, true, true, true, true, true, false]) rfl rfl rfl (by kernel_rfl) (by kernel_rfl) (by kernel_rfl) rfl (by kernel_rfl) rfl (by repeat (first | exact np_post | refine np_then ?_ | refine np_in ?_)) (by first | (intro p hp; (repeat (first | exact hp | apply List.mem_cons_of_mem | apply List.mem_append_right)); done) | (repeat (first | exact in_nil | refine in_cons (by repeat (first | exact List.mem_cons_self | apply List.mem_cons_of_mem | apply List.mem_append_right)) ?_))) (by first | exact Le.refl _ | assumption | exact Le.trans ‹_› ‹_›) rfl (y_p rfl) ?_
            refine a_one (i := 9) (listed' := #[true, true, true, true, true, true, true, true, true, true]) rfl rfl (by kernel_rfl) rfl rfl (.inr ⟨(by first | (intro p hp; (repeat (first | exact hp | apply List.mem_cons_of_mem | apply List.mem_append_right)); done) | (repeat (first | exact in_nil | refine in_cons (by repeat (first | exact List.mem_cons_self | apply List.mem_cons_of_mem | apply List.mem_append_right)) ?_))), (by first | exact Le.refl _ | assumption | exact Le.trans ‹_› ‹_›)⟩) (e_val rfl (y_p rfl) ?_)
            refine a_done (by kernel_rfl) (by kernel_rfl) ?_
            refine q_then ?_
            refine w_seq ?_
            refine w_region ?_
            refine o_run rfl (e_val rfl (y_p rfl) ?_)
            refine o_run rfl (e_val rfl (y_p rfl) ?_)
            refine o_run rfl (e_val rfl (y_p rfl) ?_)
            refine w_nil ?_
            refine q_then ?_
            refine w_ret ?_
            refine PW.clear ?_
            refine r_one rfl rfl ?_
            -- leaf 6
            dsimp only at *
            exact congrArg Value.bool (decide_eq_decide.2 ⟨fun h => ⟨by dsimp only; omega, h⟩, fun h => h.2⟩)


abbrev T29 : TypeId := 29
abbrev T63 : TypeId := 63
theorem flat_R {l : List RV} (h : ∀ x ∈ l, (∃ a b c, x.fv = .slice a b c) ∧ ∃ a b c, x.bv = .slice a b c) : flatL (l.flatMap encR) = true := by
  induction l with
  | nil => rfl
  | cons x l ih =>
    obtain ⟨⟨a, b, c, h1⟩, ⟨a', b', c', h2⟩⟩ := h x (by simp)
    simpa [flatL, one1, h1, h2] using ih fun y hy => h y (by simp [hy])
theorem RvAt.flat {F : FH} {x : RV} (h : RvAt F x) : flatL (cellsL (.agg (encR x).toArray)) = true := by
  obtain ⟨a, b, h1, -⟩ := h.fs.at
  obtain ⟨a', b', h2, -⟩ := h.body.at
  have : cellsL (.agg (encR x).toArray) = encR x := rfl
  rw [this]
  simp [flatL, one1, h1, h2]
/-- An origin of rules that the walk owns. -/
def IsOrigin (F : FH) (Γo : Blks) (p : Value) (rs : List Rl) (gens : List Int) : Prop :=
  ∃ (bo bg : Nat) (vr : Value) (Γr : Blks) (ys : List RV), p = .pointer (some ⟨bo, 0, none⟩) ∧ Γo = (bo, .cells (List.toArray [.bool true, vr, .slice (some ⟨bg, 0, none⟩) rs.length rs.length]) T63 (0, 0)) :: (bg, .cells (List.toArray (gens.map int)) T3 (0, 0)) :: Γr ∧
    gens.length = rs.length ∧ ys.map RV.r = rs ∧ (∀ y ∈ ys, RvAt F y) ∧ Own T29 6 (ys.flatMap encR) ys.length vr Γr
def newB (rs : List Rl) : Bool := decide (rs.length ≤ 64) && rs.all mayB

theorem c_New (F : FH) (hG : Glob F) (v : Value) (xs : List RV) (hv : SlAt F encR v xs) (hx : ∀ x ∈ xs, RvAt F x ∧ RlOk x.r) (hl : xs.length ≤ 1000000) : Fn Tryz.prog 7 [v] F [] (fun r F' Γ' => if newB (xs.map RV.r) = true then ∃ p, r = .tuple #[p, int 0] ∧ IsOrigin F' Γ' p (xs.map RV.r) (List.replicate xs.length 0) else r = .tuple #[.pointer none, int (if 64 < xs.length then 3 else 2)]) := by
  obtain ⟨a0, cap0, rfl, hcase⟩ := hv.at
  refine fn_walk Tryz.func7 (by kernel_rfl) rfl rfl rfl ?_
  intro w0
  simp only [numb, List.map_nil, List.map_cons, Nat.zero_add, Nat.reduceAdd, List.cons_append, List.nil_append]
  refine w_seq ?_
  refine w_region ?_
  refine o_run rfl (e_val rfl (y_p rfl) ?_)
  refine o_run rfl (e_val rfl (y_p rfl) ?_)
  refine w_nil ?_
  refine q_then ?_
  refine w_seq ?_
  refine w_seq ?_
  refine w_region ?_
  refine o_run rfl (e_val rfl (y_p rfl) ?_)
  refine o_run rfl (e_val rfl (y_lenL ty30 rfl) ?_)
  refine o_run rfl (e_val rfl (y_p rfl) ?_)
  refine w_nil ?_
  refine q_then ?_
  first | refine w_condD rfl (fun h1 => ?_) (fun h1 => ?_) | refine w_condN rfl (fun h1 => ?_) (fun h1 => ?_) | refine w_cond rfl (fun h1 => ?_) (fun h1 => ?_)
  · refine w_seq ?_
    refine w_region ?_
    refine o_run rfl (e_val rfl (y_p rfl) ?_)
    refine o_run rfl (e_val rfl (y_p rfl) ?_)
    refine w_nil ?_
    refine q_then ?_
    refine w_ret ?_
    refine q_thenR ?_
    refine r_many (rs := [.tmp 2, .tmp 3]) rfl rfl ?_
    -- leaf 1
    rw [if_neg (by simp only [newB, List.length_map]; simp; omega), if_pos (by omega)]
  · refine w_skip ?_
    refine q_then ?_
    refine w_seq ?_
    refine w_region ?_
    refine o_run rfl (e_val rfl (y_p rfl) ?_)
    refine o_run rfl (e_val rfl (y_lenL ty30 rfl) ?_)
    refine o_run rfl (e_mkS ty61 ty3 rfl rfl rfl (by omega) (by omega) rfl (fun b12 => ?_))
    refine o_run rfl (e_val rfl (y_build pl63 rfl rfl) ?_)
    refine o_run rfl (e_box rfl rfl rfl (fun b14 => ?_))
    refine o_run rfl (e_val rfl (y_p rfl) ?_)
    refine w_nil ?_
    refine q_then ?_
    refine w_seq ?_
    refine w_seq ?_
    refine w_region ?_
    refine o_run rfl (e_val rfl (y_p rfl) ?_)
    refine o_run rfl (e_val rfl (y_lenL ty30 rfl) ?_)
    refine o_run rfl (e_val rfl (y_p rfl) ?_)
    refine w_nil ?_
    refine q_then ?_
    refine w_block ?_
    refine w_loop (T := Nat × Value × Blks × List RV × FH) (fun x => ([(4, .pointer (some ⟨b14, 0, none⟩)), (15, .slice a0 xs.length cap0), (16, int xs.length), (17, int x.1)], x.2.2.2.2, (b14, .cells (List.toArray [.bool true, x.2.1, .slice (some ⟨b12, 0, none⟩) xs.length xs.length]) T63 (0, 0)) :: (b12, .cells (List.toArray (List.replicate xs.length (int 0))) T3 (0, 0)) :: x.2.2.1)) (fun x => x.1 ≤ xs.length ∧ Le F x.2.2.2.2 ∧ x.2.2.2.1.map RV.r = (xs.take x.1).map RV.r ∧ (∀ y ∈ x.2.2.2.1, RvAt x.2.2.2.2 y) ∧ ((xs.take x.1).map RV.r).all mayB = true ∧ Own T29 6 (x.2.2.2.1.flatMap encR) x.2.2.2.1.length x.2.1 x.2.2.1) (fun x => xs.length - x.1) (0, nilV, [], [], F) (⟨Nat.zero_le _, Le.refl _, rfl, by simp, rfl, Own.nil _ _⟩) (by repeat (first | exact trivial | refine ⟨rfl, ?_⟩)) rfl rfl ?_
    rintro ⟨k, vr, Γr, ys, Fk⟩ ⟨hk, hFk, hyr, hya, hym, hO⟩
    dsimp only at hk hFk hyr hya hym hO ⊢
    refine w_seq ?_
    refine w_region ?_
    refine o_run rfl (e_val rfl (y_p rfl) ?_)
    refine w_nil ?_
    refine q_then ?_
    refine w_seq ?_
    first | refine w_condD rfl (fun h2 => ?_) (fun h2 => ?_) | refine w_condN rfl (fun h2 => ?_) (fun h2 => ?_) | refine w_cond rfl (fun h2 => ?_) (fun h2 => ?_)
    · refine w_skip ?_
      refine q_then ?_
      refine w_seq ?_
      refine w_block ?_
      refine w_seq ?_
      refine w_region ?_
      have hk' : k < xs.length := by omega
      obtain ⟨b0, off0, rfl, hcap0, hC⟩ := hcase (by intro h; simp [h] at hk')
      obtain ⟨hxk, hok⟩ := hx xs[k] (List.getElem_mem hk')
      have hxk1 := hxk.mono hFk
      have hyl : ys.length = k := by have := congrArg List.length hyr; simpa [Nat.min_eq_left hk] using this
      refine o_run rfl (e_val rfl (y_ia ty30 ty29 rfl rfl (by omega)) ?_)
      refine o_run rfl (e_val rfl (y_ldC ty29 rfl (hC.mono hFk) (ld_fm encR_len xs hk')) ?_)
      refine o_run rfl (e_alloc ty29 rfl rfl (fun bk => ?_))
      refine o_run rfl (e_st ty29 rfl rfl rfl rfl hxk.flat rfl ?_)
      refine w_nil ?_
      refine q_then ?_
      refine w_seq ?_
      refine w_seq ?_
      refine w_region ?_
      refine o_run rfl (e_val rfl (y_ld ty29 rfl rfl) ?_)
      refine o_run rfl (e_callV rfl rfl (c_mayR _ (hG.mono hFk) _ hxk1 hok) rfl ?_)
      refine o_run rfl (e_val rfl (y_p rfl) ?_)
      refine w_nil ?_
      refine q_then ?_
      first | refine w_condD rfl (fun h3 => ?_) (fun h3 => ?_) | refine w_condN rfl (fun h3 => ?_) (fun h3 => ?_) | refine w_cond rfl (fun h3 => ?_) (fun h3 => ?_)
      · refine w_seq ?_
        refine w_region ?_
        refine o_run rfl (e_val rfl (y_p rfl) ?_)
        refine o_run rfl (e_val rfl (y_p rfl) ?_)
        refine w_nil ?_
        refine q_then ?_
        refine w_ret ?_
        refine q_thenR ?_
        refine q_inR ?_
        refine q_thenR ?_
        refine q_thenR ?_
        refine q_inR ?_
        refine q_thenR ?_
        refine r_many (rs := [.tmp 2, .tmp 3]) rfl rfl ?_
        -- leaf 2
        rw [if_neg, if_neg (by omega)]
        intro hb
        simp only [newB, Bool.and_eq_true, List.all_eq_true] at hb
        exact h3 (of_decide_eq_true (hb.2 _ (List.mem_map.2 ⟨_, List.getElem_mem hk', rfl⟩)))
      · refine w_skip ?_
        refine q_then ?_
        refine w_draw ([(bk, .cells (List.toArray (encR xs[k])) T29 (0, 0)), (b14, .cells (List.toArray [.bool true, vr, .slice (some ⟨b12, 0, none⟩) xs.length xs.length]) T63 (0, 0))]) [0, 1, 2, 3, 4, 5] mixed ?_
        refine a_val (i := 0) (listed' := #[true, false, false, false, false, false, false, false, false, false, false, false]) rfl rfl rfl (by kernel_rfl) (by kernel_rfl) (by kernel_rfl) rfl (by kernel_rfl) rfl (by repeat (first | exact np_post | refine np_then ?_ | refine np_in ?_)) (by first | (intro p hp; (repeat (first | exact hp | apply List.mem_cons_of_mem | apply List.mem_append_right)); done) | (repeat (first | exact in_nil | refine in_cons (by repeat (first | exact List.mem_cons_self | apply List.mem_cons_of_mem | apply List.mem_append_right)) ?_))) (by first | exact Le.refl _ | assumption | exact Le.trans ‹_› ‹_›) rfl (y_p rfl) ?_
        refine a_val (i := 1) (listed' := #[true, true, false, false, false, false, false, false, false, false, false, false]) rfl rfl rfl (by kernel_rfl) (by kernel_rfl) (by kernel_rfl) rfl (by kernel_rfl) rfl (by repeat (first | exact np_post | refine np_then ?_ | refine np_in ?_)) (by first | (intro p hp; (repeat (first | exact hp | apply List.mem_cons_of_mem | apply List.mem_append_right)); done) | (repeat (first | exact in_nil | refine in_cons (by repeat (first | exact List.mem_cons_self | apply List.mem_cons_of_mem | apply List.mem_append_right)) ?_))) (by first | exact Le.refl _ | assumption | exact Le.trans ‹_› ‹_›) rfl (y_p rfl) ?_
        refine a_val (i := 2) (listed' := #[true, true, true, false, false, false, false, false, false, false, false, false]) rfl rfl rfl (by kernel_rfl) (by kernel_rfl) (by kernel_rfl) rfl (by kernel_rfl) rfl (by repeat (first | exact np_post | refine np_then ?_ | refine np_in ?_)) (by first | (intro p hp; (repeat (first | exact hp | apply List.mem_cons_of_mem | apply List.mem_append_right)); done) | (repeat (first | exact in_nil | refine in_cons (by repeat (first | exact List.mem_cons_self | apply List.mem_cons_of_mem | apply List.mem_append_right)) ?_))) (by first | exact Le.refl _ | assumption | exact Le.trans ‹_› ‹_›) rfl (y_p rfl) ?_
        refine a_val (i := 3) (listed' := #[true, true, true, true, false, false, false, false, false, false, false, false]) rfl rfl rfl (by kernel_rfl) (by kernel_rfl) (by kernel_rfl) rfl (by kernel_rfl) rfl (by repeat (first | exact np_post | refine np_then ?_ | refine np_in ?_)) (by first | (intro p hp; (repeat (first | exact hp | apply List.mem_cons_of_mem | apply List.mem_append_right)); done) | (repeat (first | exact in_nil | refine in_cons (by repeat (first | exact List.mem_cons_self | apply List.mem_cons_of_mem | apply List.mem_append_right)) ?_))) (by first | exact Le.refl _ | assumption | exact Le.trans ‹_› ‹_›) rfl (y_fa fo63_1 rfl) ?_
        refine a_val (i := 4) (listed' := #[true, true, true, true, true, false, false, false, false, false, false, false]) rfl rfl rfl (by kernel_rfl) (by kernel_rfl) (by kernel_rfl) rfl (by kernel_rfl) rfl (by repeat (first | exact np_post | refine np_then ?_ | refine np_in ?_)) (by first | (intro p hp; (repeat (first | exact hp | apply List.mem_cons_of_mem | apply List.mem_append_right)); done) | (repeat (first | exact in_nil | refine in_cons (by repeat (first | exact List.mem_cons_self | apply List.mem_cons_of_mem | apply List.mem_append_right)) ?_))) (by first | exact Le.refl _ | assumption | exact Le.trans ‹_› ‹_›) rfl (y_ld ty30 rfl rfl) ?_
        refine a_val (i := 5) (listed' := #[true, true, true, true, true, true, false, false, false, false, false, false]) rfl rfl rfl (by kernel_rfl) (by kernel_rfl) (by kernel_rfl) rfl (by kernel_rfl) rfl (by repeat (first | exact np_post | refine np_then ?_ | refine np_in ?_)) (by first | (intro p hp; (repeat (first | exact hp | apply List.mem_cons_of_mem | apply List.mem_append_right)); done) | (repeat (first | exact in_nil | refine in_cons (by repeat (first | exact List.mem_cons_self | apply List.mem_cons_of_mem | apply List.mem_append_right)) ?_))) (by first | exact Le.refl _ | assumption | exact Le.trans ‹_› ‹_›) rfl (y_ld ty29 rfl rfl) ?_
        refine a_one (i := 6) (listed' := #[true, true, true, true, true, true, true, false, false, false, false, false]) rfl rfl (by kernel_rfl) rfl rfl (.inr ⟨(by first | (intro p hp; (repeat (first | exact hp | apply List.mem_cons_of_mem | apply List.mem_append_right)); done) | (repeat (first | exact in_nil | refine in_cons (by repeat (first | exact List.mem_cons_self | apply List.mem_cons_of_mem | apply List.mem_append_right)) ?_))), (by first | exact Le.refl _ | assumption | exact Le.trans ‹_› ‹_›)⟩) (e_call rfl rfl (c_ownR _ _ hxk1 hok) (List.Perm.refl _) rfl (fun r6 F6 Γ6 hR6 hF6 => ?_))
        obtain ⟨fv6, bv6, Γ7, Γ8, rfl, hO7, hO8, rfl⟩ := hR6
        obtain ⟨pf, cf, rfl⟩ := hO7.val
        obtain ⟨pb, cb, rfl⟩ := hO8.val
        rw [List.append_assoc]
        refine PW.freezeOwn hO7 (List.Perm.refl _) (fun F7 hF7 hS7 => ?_)
        refine PW.freezeOwn hO8 (List.Perm.refl _) (fun F8 hF8 hS8 => ?_)
        have hFk8 := (hF6.trans hF7).trans hF8
        refine a_one (i := 7) (listed' := #[true, true, true, true, true, true, true, true, false, false, false, false]) rfl rfl (by kernel_rfl) rfl rfl (.inr ⟨(by first | (intro p hp; (repeat (first | exact hp | apply List.mem_cons_of_mem | apply List.mem_append_right)); done) | (repeat (first | exact in_nil | refine in_cons (by repeat (first | exact List.mem_cons_self | apply List.mem_cons_of_mem | apply List.mem_append_right)) ?_))), (by first | exact Le.refl _ | assumption | exact Le.trans ‹_› ‹_›)⟩) (e_bs ty30 ty29 (by omega) rfl rfl rfl rfl (fun b31 => ?_))
        refine a_one (i := 8) (listed' := #[true, true, true, true, true, true, true, true, true, false, false, false]) rfl rfl (by kernel_rfl) rfl rfl (.inr ⟨(by first | (intro p hp; (repeat (first | exact hp | apply List.mem_cons_of_mem | apply List.mem_append_right)); done) | (repeat (first | exact in_nil | refine in_cons (by repeat (first | exact List.mem_cons_self | apply List.mem_cons_of_mem | apply List.mem_append_right)) ?_))), (by first | exact Le.refl _ | assumption | exact Le.trans ‹_› ‹_›)⟩) (e_appS ty30 ty30.u (.inl ⟨_, rfl⟩) ty29 rfl rfl rfl hO (Src.lit (k := 1) rfl) rfl (by omega) (by decide) rfl (fun v9 Γ9 hO9 => ?_))
        obtain ⟨p9, c9, rfl⟩ := hO9.val
        refine a_one (i := 9) (listed' := #[true, true, true, true, true, true, true, true, true, true, false, false]) rfl rfl (by kernel_rfl) rfl rfl (.inr ⟨(by first | (intro p hp; (repeat (first | exact hp | apply List.mem_cons_of_mem | apply List.mem_append_right)); done) | (repeat (first | exact in_nil | refine in_cons (by repeat (first | exact List.mem_cons_self | apply List.mem_cons_of_mem | apply List.mem_append_right)) ?_))), (by first | exact Le.refl _ | assumption | exact Le.trans ‹_› ‹_›)⟩) (e_val rfl (y_p rfl) ?_)
        refine a_one (i := 10) (listed' := #[true, true, true, true, true, true, true, true, true, true, true, false]) rfl rfl (by kernel_rfl) rfl rfl (.inl (by kernel_rfl)) (e_val rfl (y_fa fo63_1 rfl) ?_)
        refine a_one (i := 11) (listed' := #[true, true, true, true, true, true, true, true, true, true, true, true]) rfl rfl (by kernel_rfl) rfl rfl (.inl (by kernel_rfl)) (e_st ty30 rfl rfl rfl rfl rfl rfl ?_)
        refine a_done (by kernel_rfl) (by kernel_rfl) ?_
        refine q_in ?_
        refine q_then ?_
        refine w_region ?_
        refine o_run rfl (e_val rfl (y_addI rfl rfl (by omega)) ?_)
        refine o_run rfl (e_val rfl (y_p rfl) ?_)
        refine w_nil ?_
        refine PW.only3 [(b14, .cells (List.toArray [.bool true, .slice p9 (ys.length + 1) c9, .slice (some ⟨b12, 0, none⟩) xs.length xs.length]) T63 (0, 0))] [(b12, .cells (List.toArray (List.replicate xs.length (int 0))) T3 (0, 0))] Γ9 ?_
        refine q_round (k + 1, .slice p9 (ys.length + 1) c9, Γ9, ys ++ [⟨xs[k].r, .slice pf xs[k].r.fs.length cf, .slice pb xs[k].r.body.length cb⟩], F8) ⟨by dsimp only; omega, hFk.trans hFk8, ?_, ?_, ?_, ?_⟩ (by dsimp only; omega) ⟨rfl, rfl, rfl, rfl, trivial⟩ rfl rfl
        · dsimp only
          rw [List.take_succ_eq_append_getElem hk', List.map_append, List.map_append, hyr]
          rfl
        · intro y hy
          rcases List.mem_append.1 hy with hy | hy
          · exact (hya y hy).mono hFk8
          · rw [List.mem_singleton.1 hy]
            exact ⟨hS7.mono hF8, hS8⟩
        · dsimp only
          rw [List.take_succ_eq_append_getElem hk', List.map_append, List.all_append, hym]
          simp [show mayB xs[k].r = true from decide_eq_true h3]
        · dsimp only
          rw [List.flatMap_append, List.length_append]
          exact hO9
    · refine w_exit ?_
      refine q_thenE ?_
      refine q_thenE ?_
      refine q_inE ?_
      refine q_then ?_
      refine w_seq ?_
      refine w_region ?_
      refine o_run rfl (e_val rfl (y_p rfl) ?_)
      refine o_run rfl (e_val rfl (y_p rfl) ?_)
      refine o_run rfl (e_val rfl (y_p rfl) ?_)
      refine w_nil ?_
      refine q_then ?_
      refine w_ret ?_
      refine r_many (rs := [.tmp 2, .tmp 3]) rfl rfl ?_
      -- leaf 3
      obtain rfl : k = xs.length := by omega
      rw [List.take_length] at hyr hym
      rw [if_pos (by simp only [newB, List.length_map, hym, Bool.and_true]; exact decide_eq_true (by omega))]
      refine ⟨_, rfl, b14, b12, vr, Γr, ys, rfl, ?_, by simp, hyr, hya, hO⟩
      simp

end Go.SL
