import Derived.Test.YtgefikehhcgdnaaGreatDoorOrig

/- A path that begins so, and the rule of a path: contracts. No condition. -/
namespace Go.SL
open Go.Proofs
set_option maxRecDepth 10000

theorem FnV.eq {P : Program} {f : FuncId} {args : List Value} {F : FH} {v u : Value} (h : FnV P f args F v) (e : v = u) : FnV P f args F u := e ▸ h
/-- An origin of rules, read only. -/
structure OrigAt (F : FH) (bo : Nat) (rs : List Rl) (gens : List Int) : Prop where
  ex : ∃ (bg : Nat) (vr : Value) (ys : List RV), F bo = some (.cells (List.toArray [.bool true, vr, .slice (some ⟨bg, 0, none⟩) rs.length rs.length]) T63 (0, 0)) ∧ F bg = some (.cells (List.toArray (gens.map int)) T3 (0, 0)) ∧
    gens.length = rs.length ∧ ys.map RV.r = rs ∧ (∀ y ∈ ys, RvAt F y) ∧ SlAt F encR vr ys
theorem OrigAt.mono {F G : FH} {bo : Nat} {rs : List Rl} {gens : List Int} (h : OrigAt F bo rs gens) (hl : Le F G) : OrigAt G bo rs gens := by
  obtain ⟨bg, vr, ys, h1, h2, h3, h4, h5, h6⟩ := h.ex
  exact ⟨bg, vr, ys, hl _ _ h1, hl _ _ h2, h3, h4, fun y hy => (h5 y hy).mono hl, h6.mono hl⟩
def findK (path : List UInt8) : List Rl → Nat → Int
  | [], _ => -1
  | r :: t, k => if Lib.hasPrefix path r.pre = true then (k : Int) else findK path t (k + 1)
def findI (path : List UInt8) (ok : Bool) (rs : List Rl) : Int := if ok = true then findK path rs 0 else -1
theorem findK_no {path : List UInt8} : ∀ {rs : List Rl} {k : Nat}, (∀ r ∈ rs, Lib.hasPrefix path r.pre = false) → findK path rs k = -1
  | [], _, _ => rfl
  | r :: t, k, h => by
    have := h r (by simp)
    simp only [findK, this, Bool.false_eq_true, if_false]
    exact findK_no fun x hx => h x (by simp [hx])

theorem c_PathS (F : FH) (l : List UInt8) (hl : l.length ≤ 1000000) (ht : isTargetB l = true) (h0 : bt l 0 = 47) : FnV Tryz.prog 48 [str l] F (.tuple #[str l, str [], .bool true]) := by
  have hlen : 0 < l.length := by cases l with | nil => simp [isTargetB] at ht | cons => simp
  refine fn_walk Tryz.func48 (by kernel_rfl) rfl rfl rfl ?_
  intro w0
  simp only [numb, List.map_nil, List.map_cons, Nat.zero_add, Nat.reduceAdd, List.cons_append, List.nil_append]
  refine w_seq ?_
  refine w_region ?_
  refine o_run rfl (e_val rfl (y_p rfl) ?_)
  refine o_run rfl (e_val rfl (y_p rfl) ?_)
  refine o_run rfl (e_val rfl (y_p rfl) ?_)
  refine w_nil ?_
  refine q_then ?_
  refine w_seq ?_
  refine w_block ?_
  refine w_seq ?_
  refine w_region ?_
  refine o_run rfl (e_val rfl (y_p rfl) ?_)
  refine o_run rfl (e_callV rfl rfl ((c_isTarget l (by omega) _).eq (congrArg Value.bool ht)) rfl ?_)
  refine o_run rfl (e_val rfl (y_p rfl) ?_)
  refine o_run rfl (e_val rfl (y_p rfl) ?_)
  refine w_nil ?_
  refine q_then ?_
  refine w_condF rfl ?_
  refine w_seq ?_
  refine w_region ?_
  refine o_run rfl (e_val rfl (y_p rfl) ?_)
  refine o_run rfl (e_val rfl (y_ixS ty9 rfl rfl (by omega)) ?_)
  refine o_run rfl (e_val rfl (y_pe (.bool true) rfl (congrArg Value.bool (decide_eq_true h0))) ?_)
  refine o_run rfl (e_val rfl (y_p rfl) ?_)
  refine g_no rfl rfl rfl rfl ?_
  refine g_no rfl rfl rfl rfl ?_
  refine o_run rfl (e_val rfl (y_p rfl) ?_)
  refine o_run rfl (e_val rfl (y_p rfl) ?_)
  refine w_nil ?_
  refine q_then ?_
  refine w_condT rfl ?_
  refine w_seq ?_
  refine w_region ?_
  refine o_run rfl (e_val rfl (y_p rfl) ?_)
  refine o_run rfl (e_val rfl (y_p rfl) ?_)
  refine o_run rfl (e_val rfl (y_p rfl) ?_)
  refine o_run rfl (e_val rfl (y_p rfl) ?_)
  refine w_nil ?_
  refine q_then ?_
  refine w_ret ?_
  refine q_inR ?_
  refine q_thenR ?_
  refine r_many (rs := [.tmp 2, .tmp 3, .tmp 4]) rfl rfl ?_
  -- leaf 1
  rfl

theorem c_find (F : FH) (bo : Nat) (rs : List Rl) (gens : List Int) (m target path host : List UInt8) (minor : Int) (vf : Value) (ok : Bool) (hO : OrigAt F bo rs gens) (hp : ∀ G, FnV Tryz.prog 48 [str target] G (.tuple #[str path, str host, .bool ok])) (hl : rs.length ≤ 1000000) : FnV Tryz.prog 23 [.pointer (some ⟨bo, 0, none⟩), .agg #[str m, str target, int minor, vf]] F (int (findI path ok rs)) := by
  obtain ⟨bg, vr, ys, hbo, hbg, hgl, rfl, hya, hys⟩ := hO.ex
  obtain ⟨a0, cap0, rfl, hcase⟩ := hys.at
  rw [List.length_map] at *
  refine fn_walk Tryz.func23 (by kernel_rfl) rfl rfl rfl ?_
  intro w0
  simp only [numb, List.map_nil, List.map_cons, Nat.zero_add, Nat.reduceAdd, List.cons_append, List.nil_append]
  refine w_seq ?_
  refine w_region ?_
  refine o_run rfl (e_box rfl rfl rfl (fun b3 => ?_))
  refine o_run rfl (e_val rfl (y_p rfl) ?_)
  refine w_nil ?_
  refine q_then ?_
  refine w_seq ?_
  refine w_region ?_
  refine o_run rfl (e_val rfl (y_fa fo37_1 rfl) ?_)
  refine o_run rfl (e_val rfl (y_ld ty9 rfl rfl) ?_)
  refine o_run rfl (e_callV rfl rfl (hp _) rfl ?_)
  refine o_run rfl (e_val rfl (y_p rfl) ?_)
  refine o_run rfl (e_val rfl (y_p rfl) ?_)
  refine o_run rfl (e_val rfl (y_p rfl) ?_)
  refine o_run rfl (e_val rfl (y_p rfl) ?_)
  refine o_run rfl (e_val rfl (y_p rfl) ?_)
  refine o_run rfl (e_val rfl (y_p rfl) ?_)
  refine o_run rfl (e_val rfl (y_p rfl) ?_)
  refine w_nil ?_
  refine q_then ?_
  refine w_seq ?_
  refine w_seq ?_
  refine w_region ?_
  refine o_run rfl (e_val rfl (y_p rfl) ?_)
  refine o_run rfl (e_val rfl (y_p rfl) ?_)
  refine o_run rfl (e_val rfl (y_fa fo63_1 rfl) ?_)
  refine o_run rfl (e_val rfl (y_ldF ty30 rfl hbo rfl) ?_)
  refine o_run rfl (e_val rfl (y_lenL ty30 rfl) ?_)
  refine PW.clear ?_
  refine o_run rfl (e_val rfl (y_p rfl) ?_)
  refine w_nil ?_
  refine q_then ?_
  refine w_block ?_
  refine w_loop (T := Nat) (fun k => ([(5, str path), (7, .bool ok), (20, .slice a0 ys.length cap0), (21, int ys.length), (22, int k)], F, [])) (fun k => k ≤ ys.length ∧ findI path ok (ys.map RV.r) = if ok = true then findK path ((ys.map RV.r).drop k) k else -1) (fun k => ys.length - k) 0 (⟨Nat.zero_le _, rfl⟩) (by repeat (first | exact trivial | refine ⟨rfl, ?_⟩)) rfl rfl ?_
  rintro k ⟨hk, hf⟩
  dsimp only at hk hf ⊢
  refine w_seq ?_
  refine w_region ?_
  refine o_run rfl (e_val rfl (y_p rfl) ?_)
  refine w_nil ?_
  refine q_then ?_
  refine w_seq ?_
  first | refine w_condD rfl (fun h1 => ?_) (fun h1 => ?_) | refine w_condN rfl (fun h1 => ?_) (fun h1 => ?_) | refine w_cond rfl (fun h1 => ?_) (fun h1 => ?_)
  · refine w_skip ?_
    refine q_then ?_
    refine w_seq ?_
    refine w_block ?_
    refine w_seq ?_
    refine w_region ?_
    refine o_run rfl (e_val rfl (y_p rfl) ?_)
    have hk' : k < ys.length := by omega
    obtain ⟨b0, off0, rfl, hcap0, hC⟩ := hcase (by intro h; simp [h] at hk')
    have hyk := hya ys[k] (List.getElem_mem hk')
    have hdr : (ys.map RV.r).drop k = ys[k].r :: (ys.map RV.r).drop (k + 1) := by rw [List.drop_eq_getElem_cons (by simpa using hk')]; simp
    refine o_run rfl (e_val rfl (y_ia ty30 ty29 rfl rfl (by omega)) ?_)
    refine o_run rfl (e_val rfl (y_ldC ty29 rfl hC (ld_fm encR_len ys hk')) ?_)
    refine o_run rfl (e_alloc ty29 rfl rfl (fun bk => ?_))
    refine o_run rfl (e_val rfl (y_p rfl) ?_)
    refine o_run rfl (e_st ty29 rfl rfl rfl rfl hyk.flat rfl ?_)
    refine w_nil ?_
    refine q_then ?_
    refine w_seq ?_
    refine w_region ?_
    refine o_run rfl (e_val rfl (y_p rfl) ?_)
    refine o_run rfl (e_val rfl (y_p rfl) ?_)
    first | refine PW.wayD (t := 28) rfl rfl (fun h2 => ?_) (fun h2 => ?_) | refine PW.way (t := 28) rfl rfl (fun h2 => ?_) (fun h2 => ?_)
    · refine o_yes rfl rfl rfl (e_val rfl (y_p rfl) ?_)
      refine o_yes rfl rfl rfl (e_val rfl (y_fa fo29_0 rfl) ?_)
      refine o_yes rfl rfl rfl (e_val rfl (y_ld ty9 rfl rfl) ?_)
      refine o_yes rfl rfl rfl (e_callV rfl rfl (c_HasPrefix _ _ _) rfl ?_)
      refine o_run rfl (e_val rfl (y_p rfl) ?_)
      refine w_nil ?_
      refine q_then ?_
      first | refine w_condD rfl (fun h3 => ?_) (fun h3 => ?_) | refine w_condN rfl (fun h3 => ?_) (fun h3 => ?_) | refine w_cond rfl (fun h3 => ?_) (fun h3 => ?_)
      · refine w_seq ?_
        refine w_region ?_
        refine o_run rfl (e_val rfl (y_p rfl) ?_)
        refine o_run rfl (e_val rfl (y_p rfl) ?_)
        refine w_nil ?_
        refine q_then ?_
        refine w_ret ?_
        refine q_inR ?_
        refine q_thenR ?_
        refine q_thenR ?_
        refine q_inR ?_
        refine q_thenR ?_
        refine PW.clear ?_
        refine r_one rfl rfl ?_
        -- leaf 1
        rw [hf, if_pos h2, hdr, findK, if_pos h3]
      · refine w_skip ?_
        refine q_in ?_
        refine q_then ?_
        refine w_region ?_
        refine o_run rfl (e_val rfl (y_addI rfl rfl (by omega)) ?_)
        refine o_run rfl (e_val rfl (y_p rfl) ?_)
        refine w_nil ?_
        refine PW.clear ?_
        refine q_round (k + 1) ⟨by omega, ?_⟩ (by omega) ⟨rfl, rfl, rfl, rfl, rfl, trivial⟩ rfl rfl
        rw [hf]
        simp only [h2, if_true, hdr, findK, h3, Bool.false_eq_true, if_false]
    · refine g_no rfl rfl rfl rfl ?_
      refine g_no rfl rfl rfl rfl ?_
      refine g_no rfl rfl rfl rfl ?_
      refine g_no rfl rfl rfl rfl ?_
      refine o_run rfl (e_val rfl (y_p rfl) ?_)
      refine w_nil ?_
      refine q_then ?_
      refine w_condF rfl ?_
      refine w_skip ?_
      refine q_in ?_
      refine q_then ?_
      refine w_region ?_
      refine o_run rfl (e_val rfl (y_addI rfl rfl (by omega)) ?_)
      refine o_run rfl (e_val rfl (y_p rfl) ?_)
      refine w_nil ?_
      refine PW.clear ?_
      refine q_round (k + 1) ⟨by omega, ?_⟩ (by omega) ⟨rfl, rfl, rfl, rfl, rfl, trivial⟩ rfl rfl
      rw [hf, h2]
      rfl
  · refine w_exit ?_
    refine q_thenE ?_
    refine q_thenE ?_
    refine q_inE ?_
    refine q_then ?_
    refine w_seq ?_
    refine w_region ?_
    refine o_run rfl (e_val rfl (y_p rfl) ?_)
    refine w_nil ?_
    refine q_then ?_
    refine w_ret ?_
    refine PW.clear ?_
    refine r_one rfl rfl ?_
    -- leaf 2
    obtain rfl : k = ys.length := by omega
    rw [hf, List.drop_of_length_le (by simp)]
    cases ok <;> rfl

end Go.SL
