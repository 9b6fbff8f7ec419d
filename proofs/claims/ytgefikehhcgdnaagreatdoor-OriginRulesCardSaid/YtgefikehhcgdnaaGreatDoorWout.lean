import Derived.Test.YtgefikehhcgdnaaGreatDoorField

/- Fields without those of some names: contracts. No condition. -/
namespace Go.SL
open Go.Proofs
set_option maxRecDepth 10000

theorem filt_snoc {l : List Fld} {k : Nat} (p : Fld → Bool) (hk : k < l.length) : (l.take (k + 1)).filter p = (l.take k).filter p ++ (if p l[k] = true then [l[k]] else []) := by
  rw [List.take_succ_eq_append_getElem hk, List.filter_append]
  congr 1
  by_cases h : p l[k] = true <;> simp [h]
def delL (l : List Fld) (name : List UInt8) : List Fld := l.filter fun f => !decide (lowL f.n = lowL name)
theorem lowL_len (l : List UInt8) : (lowL l).length = l.length := by simp [lowL]

theorem c_keep (F : FH) (v : Value) (l : List Fld) (hv : SlAt F encF v l) (hl : FsOk l) (p : Fld → Bool) (g : FuncId) (cs : List Value) (hg : ∀ f, FOk f → FnV Tryz.prog g ([.agg (encF f).toArray] ++ cs) F (.bool (p f))) : Fn Tryz.prog 233 [v, .func (.func g) #[] cs.toArray] F [] (fun r F' Γ' => SlAt F' encF r (l.filter p) ∧ Γ' = []) := by
  obtain ⟨a0, cap0, rfl, hcase⟩ := hv.at
  obtain ⟨hl1, hl2, hl3⟩ := id hl
  refine fn_walk Tryz.func233 (by kernel_rfl) rfl rfl rfl ?_
  intro w0
  simp only [numb, List.map_nil, List.map_cons, Nat.zero_add, Nat.reduceAdd, List.cons_append, List.nil_append]
  refine w_seq ?_
  refine w_region ?_
  refine o_run rfl (e_val rfl (y_p rfl) ?_)
  refine w_nil ?_
  refine q_then ?_
  refine w_seq ?_
  refine w_region ?_
  refine o_run rfl (e_val rfl (y_p rfl) ?_)
  refine w_nil ?_
  refine q_then ?_
  refine w_seq ?_
  refine w_seq ?_
  refine w_region ?_
  refine o_run rfl (e_val rfl (y_p rfl) ?_)
  refine o_run rfl (e_val rfl (y_lenL ty27 rfl) ?_)
  refine o_run rfl (e_val rfl (y_p rfl) ?_)
  refine w_nil ?_
  refine q_then ?_
  refine w_block ?_
  refine w_loop (T := Nat × Value × Blks) (fun x => ([(1, .func (.func g) #[] cs.toArray), (5, x.2.1), (8, .slice a0 l.length cap0), (9, int l.length), (10, int x.1)], F, x.2.2)) (fun x => x.1 ≤ l.length ∧ Own 57 2 (((l.take x.1).filter p).flatMap encF) ((l.take x.1).filter p).length x.2.1 x.2.2) (fun x => l.length - x.1) (0, .slice none 0 0, []) (⟨Nat.zero_le _, by simpa using Own.nil 57 2⟩) (by repeat (first | exact trivial | refine ⟨rfl, ?_⟩)) rfl rfl ?_
  rintro ⟨k, v6, Γo⟩ ⟨hk, hO⟩
  dsimp only at hk hO ⊢
  refine w_seq ?_
  refine w_region ?_
  refine o_run rfl (e_val rfl (y_p rfl) ?_)
  refine w_nil ?_
  refine q_then ?_
  refine w_seq ?_
  first | refine w_condD rfl (fun h1 => ?_) (fun h1 => ?_) | refine w_condN rfl (fun h1 => ?_) (fun h1 => ?_) | refine w_cond rfl (fun h1 => ?_) (fun h1 => ?_)
  · refine w_skip ?_
    refine q_then ?_
    refine w_seq ?_
    refine w_block ?_
    refine w_seq ?_
    refine w_region ?_
    have hk' : k < l.length := by omega
    obtain ⟨b0, off0, rfl, hcap0, hC⟩ := hcase (by intro h; simp [h] at hk')
    have hfk := hl3 l[k] (List.getElem_mem hk')
    refine o_run rfl (e_val rfl (y_ia ty27 ty57 rfl rfl (by omega)) ?_)
    refine o_run rfl (e_val rfl (y_ldC ty57 rfl hC (ld_fm encF_len l hk')) ?_)
    refine o_run rfl (e_alloc ty57 rfl rfl (fun b7 => ?_))
    refine o_run rfl (e_st ty57 rfl rfl rfl rfl rfl rfl ?_)
    refine w_nil ?_
    refine q_then ?_
    refine w_seq ?_
    refine w_region ?_
    refine o_run rfl (e_val rfl (y_p rfl) ?_)
    refine o_run rfl (e_val rfl (y_ld ty57 rfl rfl) ?_)
    refine o_run rfl (e_callV rfl rfl (hg l[k] hfk) rfl ?_)
    refine w_nil ?_
    refine q_then ?_
    first | refine w_condD rfl (fun h2 => ?_) (fun h2 => ?_) | refine w_condN rfl (fun h2 => ?_) (fun h2 => ?_) | refine w_cond rfl (fun h2 => ?_) (fun h2 => ?_)
    · refine w_region ?_
      refine o_run rfl (e_val rfl (y_p rfl) ?_)
      refine o_run rfl (e_val rfl (y_ld ty57 rfl rfl) ?_)
      refine o_run rfl (e_bs ty27 ty57 (by omega) rfl rfl rfl rfl (fun b19 => ?_))
      refine o_run rfl (e_app ty27 ty27.u (.inl ⟨_, rfl⟩) ty57 rfl rfl rfl hO (List.perm_append_comm (l₁ := [_, _]) (l₂ := Γo)) (Src.lit rfl) rfl (by have := List.length_filter_le p (l.take k); simp only [List.length_take] at this; omega) (by decide) rfl (fun v' Γo' hO' => ?_))
      refine o_run rfl (e_val rfl (y_p rfl) ?_)
      refine w_nil ?_
      refine q_in ?_
      refine q_then ?_
      refine w_region ?_
      refine o_run rfl (e_val rfl (y_addI rfl rfl (by omega)) ?_)
      refine o_run rfl (e_val rfl (y_p rfl) ?_)
      refine w_nil ?_
      refine PW.sub [_, _] Γo' (by exact List.perm_append_comm) ?_
      refine q_round (k+1, v', Γo') ⟨by dsimp only; omega, ?_⟩ (by dsimp only; omega) ⟨rfl, rfl, rfl, rfl, rfl, trivial⟩ rfl rfl
      dsimp only
      rw [filt_snoc p hk', if_pos h2]
      simpa using hO'
    · refine w_skip ?_
      refine q_in ?_
      refine q_then ?_
      refine w_region ?_
      refine o_run rfl (e_val rfl (y_addI rfl rfl (by omega)) ?_)
      refine o_run rfl (e_val rfl (y_p rfl) ?_)
      refine w_nil ?_
      refine PW.sub [_] Γo (List.Perm.refl _) ?_
      refine q_round (k+1, v6, Γo) ⟨by dsimp only; omega, ?_⟩ (by dsimp only; omega) ⟨rfl, rfl, rfl, rfl, rfl, trivial⟩ rfl rfl
      dsimp only
      rw [filt_snoc p hk', if_neg (by simpa using h2), List.append_nil]
      exact hO
  · refine w_exit ?_
    refine q_thenE ?_
    refine q_thenE ?_
    refine q_inE ?_
    refine q_then ?_
    refine w_seq ?_
    refine w_region ?_
    obtain rfl : k = l.length := by omega
    rw [List.take_length] at hO
    refine PW.freezeOwn (Γr := []) hO (by rw [List.append_nil]) (fun F' hF hS => ?_)
    refine o_run rfl (e_val rfl (y_p rfl) ?_)
    refine o_run rfl (e_val rfl (y_p rfl) ?_)
    refine w_nil ?_
    refine q_then ?_
    refine w_ret ?_
    refine r_one rfl rfl ?_
    -- leaf 1
    exact ⟨hS, rfl⟩

theorem c_gone (F : FH) (b bm clock : Nat) (m : List (List UInt8 × Value × Nat)) (q : List UInt8 → Bool) (hb : F b = some (.cells (List.toArray [.map (some bm)]) 277 (0, 0))) (hm : F bm = some (.map (Es m) clock)) (hq : ∀ x, (findM m x).getD (.bool false) = .bool (q x)) (f : Fld) (hf : FOk f) : FnV Tryz.prog 234 ([.agg (encF f).toArray] ++ [.pointer (some ⟨b, 0, none⟩)]) F (.bool (!q (lowL f.n))) := by
  obtain ⟨hf1, hf2⟩ := hf
  refine fn_walk Tryz.func234 (by kernel_rfl) rfl rfl rfl ?_
  intro w0
  simp only [numb, List.map_nil, List.map_cons, Nat.zero_add, Nat.reduceAdd, List.cons_append, List.nil_append]
  refine w_seq ?_
  refine w_region ?_
  refine o_run rfl (e_box rfl rfl rfl (fun b2 => ?_))
  refine o_run rfl (e_val rfl (y_p rfl) ?_)
  refine w_nil ?_
  refine q_then ?_
  refine w_seq ?_
  refine w_drawA [0, 1, 2] mixed ?_
  refine a_val (i := 0) (listed' := #[true, false, false, false, false, false, false]) rfl rfl rfl (by kernel_rfl) (by kernel_rfl) (by kernel_rfl) rfl (by kernel_rfl) rfl (by repeat (first | exact np_post | refine np_then ?_ | refine np_in ?_)) (by first | (intro p hp; (repeat (first | exact hp | apply List.mem_cons_of_mem | apply List.mem_append_right)); done) | (repeat (first | exact in_nil | refine in_cons (by repeat (first | exact List.mem_cons_self | apply List.mem_cons_of_mem | apply List.mem_append_right)) ?_))) (by first | exact Le.refl _ | assumption | exact Le.trans ‹_› ‹_›) rfl (y_ldF ty277 rfl hb rfl) ?_
  refine a_val (i := 1) (listed' := #[true, true, false, false, false, false, false]) rfl rfl rfl (by kernel_rfl) (by kernel_rfl) (by kernel_rfl) rfl (by kernel_rfl) rfl (by repeat (first | exact np_post | refine np_then ?_ | refine np_in ?_)) (by first | (intro p hp; (repeat (first | exact hp | apply List.mem_cons_of_mem | apply List.mem_append_right)); done) | (repeat (first | exact in_nil | refine in_cons (by repeat (first | exact List.mem_cons_self | apply List.mem_cons_of_mem | apply List.mem_append_right)) ?_))) (by first | exact Le.refl _ | assumption | exact Le.trans ‹_› ‹_›) rfl (y_fa fo57_0 rfl) ?_
  refine a_val (i := 2) (listed' := #[true, true, true, false, false, false, false]) rfl rfl rfl (by kernel_rfl) (by kernel_rfl) (by kernel_rfl) rfl (by kernel_rfl) rfl (by repeat (first | exact np_post | refine np_then ?_ | refine np_in ?_)) (by first | (intro p hp; (repeat (first | exact hp | apply List.mem_cons_of_mem | apply List.mem_append_right)); done) | (repeat (first | exact in_nil | refine in_cons (by repeat (first | exact List.mem_cons_self | apply List.mem_cons_of_mem | apply List.mem_append_right)) ?_))) (by first | exact Le.refl _ | assumption | exact Le.trans ‹_› ‹_›) rfl (y_ld ty9 rfl rfl) ?_
  refine a_one (i := 3) (listed' := #[true, true, true, true, false, false, false]) rfl rfl (by kernel_rfl) rfl rfl (.inr ⟨(by first | (intro p hp; (repeat (first | exact hp | apply List.mem_cons_of_mem | apply List.mem_append_right)); done) | (repeat (first | exact in_nil | refine in_cons (by repeat (first | exact List.mem_cons_self | apply List.mem_cons_of_mem | apply List.mem_append_right)) ?_))), (by first | exact Le.refl _ | assumption | exact Le.trans ‹_› ‹_›)⟩) (e_callV rfl rfl (c_Lower _ (by omega) _) rfl ?_)
  refine a_one (i := 4) (listed' := #[true, true, true, true, true, false, false]) rfl rfl (by kernel_rfl) rfl rfl (.inr ⟨(by first | (intro p hp; (repeat (first | exact hp | apply List.mem_cons_of_mem | apply List.mem_append_right)); done) | (repeat (first | exact in_nil | refine in_cons (by repeat (first | exact List.mem_cons_self | apply List.mem_cons_of_mem | apply List.mem_append_right)) ?_))), (by first | exact Le.refl _ | assumption | exact Le.trans ‹_› ‹_›)⟩) (e_val rfl (y_lookQ ty277.u ty9.u ty4 rfl rfl hm hq) ?_)
  refine a_one (i := 5) (listed' := #[true, true, true, true, true, true, false]) rfl rfl (by kernel_rfl) rfl rfl (.inl (by kernel_rfl)) (e_val rfl (y_p rfl) ?_)
  refine a_one (i := 6) (listed' := #[true, true, true, true, true, true, true]) rfl rfl (by kernel_rfl) rfl rfl (.inl (by kernel_rfl)) (e_val rfl (y_p rfl) ?_)
  refine a_done (by kernel_rfl) (by kernel_rfl) ?_
  refine q_then ?_
  refine w_ret ?_
  refine r_one rfl rfl ?_
  -- leaf 1
  rfl


def woutL (l : List Fld) (xs : List (List UInt8)) : List Fld := l.filter fun f => !decide (lowL f.n ∈ xs.map lowL)
theorem woutL_ok {l : List Fld} (h : FsOk l) (p : Fld → Bool) : FsOk (l.filter p) := by
  obtain ⟨h1, h2, h3⟩ := h
  refine ⟨Nat.le_trans (List.length_filter_le _ _) h1, ?_, fun f hf => h3 f (List.mem_filter.1 hf).1⟩
  exact Nat.le_trans (sum_filter l p) h2
theorem put_have {m m' : List (List UInt8 × Value × Nat)} {xs : List (List UInt8)} {x : List UInt8} (h : ∀ y, findM m y = if y ∈ xs then some (.bool true) else none)
    (h' : ∀ y, findM m' y = if y = x then some (.bool true) else findM m y) : ∀ y, findM m' y = if y ∈ xs ++ [x] then some (.bool true) else none := by
  intro y
  rw [h', h]
  by_cases h1 : y = x <;> by_cases h2 : y ∈ xs <;> simp [h1, h2]

theorem c_without (F : FH) (v u : Value) (l : List Fld) (xs : List (List UInt8)) (hv : SlAt F encF v l) (hl : FsOk l) (hu : SlAt F encS u xs) (hx : xs.length ≤ 1000000000) (hxs : ∀ x ∈ xs, x.length ≤ 1000000000) : Fn Tryz.prog 177 [v, u] F [] (fun r F' Γ' => SlAt F' encF r (woutL l xs) ∧ Γ' = []) := by
  obtain ⟨a0, cap0, rfl, hcase⟩ := hu.at
  refine fn_walk Tryz.func177 (by kernel_rfl) rfl rfl rfl ?_
  intro w0
  simp only [numb, List.map_nil, List.map_cons, Nat.zero_add, Nat.reduceAdd, List.cons_append, List.nil_append]
  refine w_seq ?_
  refine w_region ?_
  refine o_run rfl (e_val rfl (y_p rfl) ?_)
  refine w_nil ?_
  refine q_then ?_
  refine w_seq ?_
  refine w_region ?_
  refine o_run rfl (e_makeMap rfl (fun bm => ?_))
  refine o_run rfl (e_alloc ty277 rfl rfl (fun b5 => ?_))
  refine o_run rfl (e_st ty277 rfl rfl rfl rfl rfl rfl ?_)
  refine w_nil ?_
  refine q_then ?_
  refine w_seq ?_
  refine w_seq ?_
  refine w_region ?_
  refine o_run rfl (e_val rfl (y_p rfl) ?_)
  refine o_run rfl (e_val rfl (y_lenL ty40 rfl) ?_)
  refine o_run rfl (e_val rfl (y_p rfl) ?_)
  refine w_nil ?_
  refine q_then ?_
  refine w_block ?_
  refine w_loop (T := Nat × List (List UInt8 × Value × Nat) × Nat) (fun x => ([(0, v), (5, .pointer (some ⟨b5, 0, none⟩)), (9, .slice a0 xs.length cap0), (10, int xs.length), (11, int x.1)], F, [(b5, .cells (List.toArray [.map (some bm)]) 277 (0, 0)), (bm, .map (Es x.2.1) x.2.2)])) (fun x => x.1 ≤ xs.length ∧ ∀ y, findM x.2.1 y = if y ∈ (xs.take x.1).map lowL then some (.bool true) else none) (fun x => xs.length - x.1) (0, [], 0) (⟨Nat.zero_le _, fun y => by simp [findM]⟩) (by repeat (first | exact trivial | refine ⟨rfl, ?_⟩)) rfl rfl ?_
  rintro ⟨k, m, c⟩ ⟨hk, hm⟩
  dsimp only at hk hm ⊢
  refine w_seq ?_
  refine w_region ?_
  refine o_run rfl (e_val rfl (y_p rfl) ?_)
  refine w_nil ?_
  refine q_then ?_
  refine w_seq ?_
  first | refine w_condD rfl (fun h1 => ?_) (fun h1 => ?_) | refine w_condN rfl (fun h1 => ?_) (fun h1 => ?_) | refine w_cond rfl (fun h1 => ?_) (fun h1 => ?_)
  · refine w_skip ?_
    refine q_then ?_
    refine w_seq ?_
    refine w_block ?_
    refine w_seq ?_
    refine w_region ?_
    have hk' : k < xs.length := by omega
    obtain ⟨b0, off0, rfl, hcap0, hC⟩ := hcase (by intro h; simp [h] at hk')
    have hfk := hxs xs[k] (List.getElem_mem hk')
    refine o_run rfl (e_val rfl (y_ia ty40 ty9 rfl rfl (by omega)) ?_)
    refine o_run rfl (e_val rfl (y_ldC ty9 rfl hC (ld_fm1 (f := str) xs hk')) ?_)
    refine o_run rfl (e_val rfl (y_p rfl) ?_)
    refine w_nil ?_
    refine q_then ?_
    refine w_drawA [0, 1] mixed ?_
    refine a_val (i := 0) (listed' := #[true, false, false, false]) rfl rfl rfl (by kernel_rfl) (by kernel_rfl) (by kernel_rfl) rfl (by kernel_rfl) rfl (by repeat (first | exact np_post | refine np_then ?_ | refine np_in ?_)) (by first | (intro p hp; (repeat (first | exact hp | apply List.mem_cons_of_mem | apply List.mem_append_right)); done) | (repeat (first | exact in_nil | refine in_cons (by repeat (first | exact List.mem_cons_self | apply List.mem_cons_of_mem | apply List.mem_append_right)) ?_))) (by first | exact Le.refl _ | assumption | exact Le.trans ‹_› ‹_›) rfl (y_ld ty277 rfl rfl) ?_
    refine a_val (i := 1) (listed' := #[true, true, false, false]) rfl rfl rfl (by kernel_rfl) (by kernel_rfl) (by kernel_rfl) rfl (by kernel_rfl) rfl (by repeat (first | exact np_post | refine np_then ?_ | refine np_in ?_)) (by first | (intro p hp; (repeat (first | exact hp | apply List.mem_cons_of_mem | apply List.mem_append_right)); done) | (repeat (first | exact in_nil | refine in_cons (by repeat (first | exact List.mem_cons_self | apply List.mem_cons_of_mem | apply List.mem_append_right)) ?_))) (by first | exact Le.refl _ | assumption | exact Le.trans ‹_› ‹_›) rfl (y_p rfl) ?_
    refine a_one (i := 2) (listed' := #[true, true, true, false]) rfl rfl (by kernel_rfl) rfl rfl (.inr ⟨(by first | (intro p hp; (repeat (first | exact hp | apply List.mem_cons_of_mem | apply List.mem_append_right)); done) | (repeat (first | exact in_nil | refine in_cons (by repeat (first | exact List.mem_cons_self | apply List.mem_cons_of_mem | apply List.mem_append_right)) ?_))), (by first | exact Le.refl _ | assumption | exact Le.trans ‹_› ‹_›)⟩) (e_callV rfl rfl (c_Lower _ (by omega) _) rfl ?_)
    refine a_one (i := 3) (listed' := #[true, true, true, true]) rfl rfl (by kernel_rfl) rfl rfl (.inr ⟨(by first | (intro p hp; (repeat (first | exact hp | apply List.mem_cons_of_mem | apply List.mem_append_right)); done) | (repeat (first | exact in_nil | refine in_cons (by repeat (first | exact List.mem_cons_self | apply List.mem_cons_of_mem | apply List.mem_append_right)) ?_))), (by first | exact Le.refl _ | assumption | exact Le.trans ‹_› ‹_›)⟩) (e_mapPut ty277.u ty9.u rfl rfl rfl (fun m' c' hm' => ?_))
    refine a_done (by kernel_rfl) (by kernel_rfl) ?_
    refine q_in ?_
    refine q_then ?_
    refine w_region ?_
    refine o_run rfl (e_val rfl (y_addI rfl rfl (by omega)) ?_)
    refine o_run rfl (e_val rfl (y_p rfl) ?_)
    refine w_nil ?_
    refine q_round (k+1, m', c') ⟨by dsimp only; omega, ?_⟩ (by dsimp only; omega) ⟨rfl, rfl, rfl, rfl, rfl, trivial⟩ rfl rfl
    dsimp only
    rw [List.take_succ_eq_append_getElem hk', List.map_append]
    exact put_have hm hm'
  · refine w_exit ?_
    refine q_thenE ?_
    refine q_thenE ?_
    refine q_inE ?_
    refine q_then ?_
    refine w_seq ?_
    refine w_region ?_
    obtain rfl : k = xs.length := by omega
    rw [List.take_length] at hm
    refine PW.freeze (fun hF1 => ?_)
    refine PW.freeze (fun hF2 => ?_)
    have hF0 := hF1.trans hF2
    refine o_run rfl (e_val rfl (y_p rfl) ?_)
    refine o_run rfl (e_val rfl (y_p rfl) ?_)
    refine o_run rfl (e_call rfl rfl (c_keep _ _ l (hv.mono hF0) hl (fun f => !decide (lowL f.n ∈ xs.map lowL)) 234 [.pointer (some ⟨b5, 0, none⟩)] (fun f hf => c_gone _ b5 bm c m (fun x => decide (x ∈ xs.map lowL)) (hF2 _ _ (fset_self _ _ _)) (fset_self _ _ _) (fun x => by rw [hm]; by_cases h : x ∈ xs.map lowL <;> simp [h]) f hf)) (List.Perm.refl _) rfl (fun r F' Γ' hR hF3 => ?_))
    obtain ⟨hR1, rfl⟩ := hR
    refine o_run rfl (e_val rfl (y_p rfl) ?_)
    refine w_nil ?_
    refine q_then ?_
    refine w_ret ?_
    refine r_one rfl rfl ?_
    -- leaf 1
    exact ⟨hR1, rfl⟩

theorem delL_eq (l : List Fld) (x : List UInt8) : woutL l [x] = delL l x := by
  simp [woutL, delL]

theorem c_Del (F : FH) (v : Value) (l : List Fld) (x : List UInt8) (hv : SlAt F encF v l) (hl : FsOk l) (hx : x.length ≤ 1000000000) : Fn Tryz.prog 124 [v, str x] F [] (fun r F' Γ' => SlAt F' encF r (delL l x) ∧ Γ' = []) := by
  refine fn_walk Tryz.func124 (by kernel_rfl) rfl rfl rfl ?_
  intro w0
  simp only [numb, List.map_nil, List.map_cons, Nat.zero_add, Nat.reduceAdd, List.cons_append, List.nil_append]
  refine w_seq ?_
  refine w_region ?_
  refine o_run rfl (e_val rfl (y_p rfl) ?_)
  refine w_nil ?_
  refine q_then ?_
  refine w_seq ?_
  refine w_region ?_
  refine o_run rfl (e_val rfl (y_p rfl) ?_)
  refine o_run rfl (e_val rfl (y_p rfl) ?_)
  refine o_run rfl (e_bs ty40 ty9 (by omega) rfl rfl rfl rfl (fun b7 => ?_))
  refine PW.freeze (fun hF1 => ?_)
  refine o_run rfl (e_call rfl rfl (c_without _ _ _ l [x] (hv.mono hF1) hl (.inr ⟨b7, 0, 1, rfl, Nat.le_refl 1, _, _, _, fset_self _ _ _, rfl⟩) (by simp) (by simpa using hx)) (List.Perm.refl _) rfl (fun r F' Γ' hR hF3 => ?_))
  obtain ⟨hR1, rfl⟩ := hR
  rw [delL_eq] at hR1
  refine o_run rfl (e_val rfl (y_p rfl) ?_)
  refine w_nil ?_
  refine q_then ?_
  refine w_ret ?_
  refine r_one rfl rfl ?_
  -- leaf 1
  exact ⟨hR1, rfl⟩

end Go.SL
