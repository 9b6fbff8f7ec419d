import Derived.Test.YtgefikehhcgdnaaGreatDoorCtl0

/- Answers of rules without fields: contracts. No condition. -/
namespace Go.SL
open Go.Proofs
set_option maxRecDepth 10000
theorem findK_nat {path : List UInt8} : ∀ {rs : List Rl} {k : Nat}, 0 ≤ findK path rs k → ∃ j : Nat, findK path rs k = ((k + j : Nat) : Int) ∧ j < rs.length
  | [], _, h => by simp [findK] at h
  | r :: t, k, h => by
    simp only [findK] at h ⊢
    split
    · exact ⟨0, by simp, by simp⟩
    · rename_i hn
      rw [if_neg hn] at h
      obtain ⟨j, h1, h2⟩ := findK_nat h
      exact ⟨j + 1, by rw [h1]; congr 1; omega, by simp; omega⟩
theorem findI_nat {path : List UInt8} {ok : Bool} {rs : List Rl} (h : ¬ findI path ok rs < 0) : ∃ j : Nat, findI path ok rs = (j : Int) ∧ j < rs.length := by
  unfold findI at h ⊢
  split at h
  · rename_i hok
    obtain ⟨j, h1, h2⟩ := findK_nat (rs := rs) (k := 0) (path := path) (by omega)
    exact ⟨j, by rw [if_pos hok, h1]; simp, h2⟩
  · omega
def replyC (rule gen code : Int) (reason : List UInt8) (fv bv : Value) (wait cut : Int) : List Value := [int rule, int gen, int 1, int code, str reason, fv, bv, int wait, int cut]
abbrev T34 : TypeId := 34
theorem map_flat (l : List Int) : l.map int = l.flatMap fun x => [int x] := by induction l <;> simp_all

theorem c_one0 (F : FH) (v : Value) (hv : SlAt F encF v []) (s : List UInt8) (hs : s.length ≤ 1000) : FnV Tryz.prog 56 [v, str s] F (.tuple #[str [], .bool false]) := by
  refine fn_walk Tryz.func56 (by kernel_rfl) rfl rfl rfl ?_
  intro w0
  simp only [numb, List.map_nil, List.map_cons, Nat.zero_add, Nat.reduceAdd, List.cons_append, List.nil_append]
  refine w_seq ?_
  refine w_region ?_
  refine o_run rfl (e_val rfl (y_p rfl) ?_)
  refine o_run rfl (e_val rfl (y_p rfl) ?_)
  refine w_nil ?_
  refine q_then ?_
  refine w_seq ?_
  refine w_region ?_
  refine o_run rfl (e_val rfl (y_p rfl) ?_)
  refine o_run rfl (e_val rfl (y_p rfl) ?_)
  refine o_run rfl (e_callV rfl rfl (c_Get _ v [] s hv FsOk.nil (by omega)) rfl ?_)
  refine o_run rfl (e_val rfl (y_p rfl) ?_)
  refine o_run rfl (e_val rfl (y_p rfl) ?_)
  refine o_run rfl (e_val rfl (y_p rfl) ?_)
  refine o_run rfl (e_val rfl (y_p rfl) ?_)
  refine o_run rfl (e_val rfl (y_p rfl) ?_)
  refine w_nil ?_
  refine q_then ?_
  refine w_seq ?_
  refine w_region ?_
  refine o_run rfl (e_val rfl (y_p rfl) ?_)
  refine o_run rfl (e_val rfl (y_p rfl) ?_)
  refine o_run rfl (e_val rfl (y_p (v := .bool false) rfl) ?_)
  refine o_run rfl (e_val rfl (y_p rfl) ?_)
  refine o_run rfl (e_val rfl (y_p rfl) ?_)
  refine w_nil ?_
  refine q_then ?_
  refine w_ret ?_
  refine r_many (rs := [.tmp 4, .tmp 5]) rfl rfl ?_
  -- leaf 1
  rfl

theorem c_Unchanged0 (F : FH) (m target : List UInt8) (minor : Int) (vf : Value) (code : Int) (hv : SlAt F encF vf []) : FnV Tryz.prog 27 [.agg (List.toArray [str m, str target, int minor, vf]), .agg (List.toArray (metaC code))] F (.bool false) := by
  refine fn_walk Tryz.func27 (by kernel_rfl) rfl rfl rfl ?_
  intro w0
  simp only [numb, List.map_nil, List.map_cons, Nat.zero_add, Nat.reduceAdd, List.cons_append, List.nil_append]
  refine w_seq ?_
  refine w_region ?_
  refine o_run rfl (e_box rfl rfl rfl (fun b2 => ?_))
  refine o_run rfl (e_box rfl rfl rfl (fun b3 => ?_))
  refine o_run rfl (e_val rfl (y_p rfl) ?_)
  refine w_nil ?_
  refine q_then ?_
  refine w_seq ?_
  refine w_seq ?_
  refine w_region ?_
  refine o_run rfl (e_val rfl (y_fa fo37_0 rfl) ?_)
  refine o_run rfl (e_val rfl (y_ld ty9 rfl rfl) ?_)
  refine o_run rfl (e_val rfl (y_p rfl) ?_)
  refine o_run rfl (e_val rfl (y_p rfl) ?_)
  first | refine PW.wayD (t := 14) rfl rfl (fun h1 => ?_) (fun h1 => ?_) | refine PW.way (t := 14) rfl rfl (fun h1 => ?_) (fun h1 => ?_)
  · refine o_yes rfl rfl rfl (e_val rfl (y_fa fo37_0 rfl) ?_)
    refine o_yes rfl rfl rfl (e_val rfl (y_ld ty9 rfl rfl) ?_)
    refine o_yes rfl rfl rfl (e_val rfl (y_p rfl) ?_)
    refine o_run rfl (e_val rfl (y_p rfl) ?_)
    refine w_nil ?_
    refine q_then ?_
    first | refine w_condD rfl (fun h2 => ?_) (fun h2 => ?_) | refine w_condN rfl (fun h2 => ?_) (fun h2 => ?_) | refine w_cond rfl (fun h2 => ?_) (fun h2 => ?_)
    · refine w_seq ?_
      refine w_region ?_
      refine o_run rfl (e_val rfl (y_p rfl) ?_)
      refine w_nil ?_
      refine q_then ?_
      refine w_ret ?_
      refine q_thenR ?_
      refine PW.clear ?_
      refine r_one rfl rfl ?_
      -- leaf 1
      rfl
    · refine w_skip ?_
      refine q_then ?_
      refine w_seq ?_
      refine w_seq ?_
      refine w_region ?_
      refine o_run rfl (e_val rfl (y_fa fo37_3 rfl) ?_)
      refine o_run rfl (e_val rfl (y_ld ty27 rfl rfl) ?_)
      refine o_run rfl (e_callV rfl rfl (c_Get _ vf [] _ hv FsOk.nil (by decide)) rfl ?_)
      refine o_run rfl (e_val rfl (y_p rfl) ?_)
      refine o_run rfl (e_val rfl (y_p rfl) ?_)
      refine o_run rfl (e_val rfl (y_p rfl) ?_)
      refine o_run rfl (e_val rfl (y_p rfl) ?_)
      refine o_run rfl (e_val rfl (y_p rfl) ?_)
      refine w_nil ?_
      refine q_then ?_
      refine w_seq ?_
      refine w_region ?_
      refine o_run rfl (e_val rfl (y_p rfl) ?_)
      refine o_run rfl (e_val rfl (y_p (v := .bool false) rfl) ?_)
      refine w_nil ?_
      refine q_then ?_
      refine w_condF rfl ?_
      refine w_skip ?_
      refine q_then ?_
      refine w_seq ?_
      refine w_region ?_
      refine o_run rfl (e_val rfl (y_fa fo37_3 rfl) ?_)
      refine o_run rfl (e_val rfl (y_ld ty27 rfl rfl) ?_)
      refine o_run rfl (e_callV rfl rfl (c_one0 _ _ hv _ (by decide)) rfl ?_)
      refine o_run rfl (e_val rfl (y_p rfl) ?_)
      refine o_run rfl (e_val rfl (y_p rfl) ?_)
      refine o_run rfl (e_val rfl (y_p rfl) ?_)
      refine o_run rfl (e_val rfl (y_p rfl) ?_)
      refine o_run rfl (e_val rfl (y_p rfl) ?_)
      refine w_nil ?_
      refine q_then ?_
      refine w_seq ?_
      refine w_region ?_
      refine o_run rfl (e_val rfl (y_p rfl) ?_)
      refine o_run rfl (e_callV rfl rfl (c_Date0 _) rfl ?_)
      refine o_run rfl (e_val rfl (y_p rfl) ?_)
      refine o_run rfl (e_val rfl (y_p rfl) ?_)
      refine o_run rfl (e_val rfl (y_p rfl) ?_)
      refine o_run rfl (e_val rfl (y_p rfl) ?_)
      refine o_run rfl (e_val rfl (y_p rfl) ?_)
      refine w_nil ?_
      refine q_then ?_
      refine w_seq ?_
      refine w_region ?_
      refine o_run rfl (e_val rfl (y_p rfl) ?_)
      refine o_run rfl (e_val rfl (y_p rfl) ?_)
      refine g_no rfl rfl rfl rfl ?_
      refine o_run rfl (e_val rfl (y_p rfl) ?_)
      refine o_run rfl (e_val rfl (y_p rfl) ?_)
      refine g_no rfl rfl rfl rfl ?_
      refine g_no rfl rfl rfl rfl ?_
      refine g_no rfl rfl rfl rfl ?_
      refine o_run rfl (e_val rfl (y_p rfl) ?_)
      refine o_run rfl (e_val rfl (y_p rfl) ?_)
      refine g_no rfl rfl rfl rfl ?_
      refine g_no rfl rfl rfl rfl ?_
      refine g_no rfl rfl rfl rfl ?_
      refine g_no rfl rfl rfl rfl ?_
      refine o_run rfl (e_val rfl (y_p rfl) ?_)
      refine o_run rfl (e_val rfl (y_p rfl) ?_)
      refine w_nil ?_
      refine q_then ?_
      refine w_ret ?_
      refine PW.clear ?_
      refine r_one rfl rfl ?_
      -- leaf 2
      rfl
  · refine g_no rfl rfl rfl rfl ?_
    refine g_no rfl rfl rfl rfl ?_
    refine g_no rfl rfl rfl rfl ?_
    refine o_run rfl (e_val rfl (y_p rfl) ?_)
    refine w_nil ?_
    refine q_then ?_
    refine w_condF rfl ?_
    refine w_skip ?_
    refine q_then ?_
    refine w_seq ?_
    refine w_seq ?_
    refine w_region ?_
    refine o_run rfl (e_val rfl (y_fa fo37_3 rfl) ?_)
    refine o_run rfl (e_val rfl (y_ld ty27 rfl rfl) ?_)
    refine o_run rfl (e_callV rfl rfl (c_Get _ vf [] _ hv FsOk.nil (by decide)) rfl ?_)
    refine o_run rfl (e_val rfl (y_p rfl) ?_)
    refine o_run rfl (e_val rfl (y_p rfl) ?_)
    refine o_run rfl (e_val rfl (y_p rfl) ?_)
    refine o_run rfl (e_val rfl (y_p rfl) ?_)
    refine o_run rfl (e_val rfl (y_p rfl) ?_)
    refine w_nil ?_
    refine q_then ?_
    refine w_seq ?_
    refine w_region ?_
    refine o_run rfl (e_val rfl (y_p rfl) ?_)
    refine o_run rfl (e_val rfl (y_p (v := .bool false) rfl) ?_)
    refine w_nil ?_
    refine q_then ?_
    refine w_condF rfl ?_
    refine w_skip ?_
    refine q_then ?_
    refine w_seq ?_
    refine w_region ?_
    refine o_run rfl (e_val rfl (y_fa fo37_3 rfl) ?_)
    refine o_run rfl (e_val rfl (y_ld ty27 rfl rfl) ?_)
    refine o_run rfl (e_callV rfl rfl (c_one0 _ _ hv _ (by decide)) rfl ?_)
    refine o_run rfl (e_val rfl (y_p rfl) ?_)
    refine o_run rfl (e_val rfl (y_p rfl) ?_)
    refine o_run rfl (e_val rfl (y_p rfl) ?_)
    refine o_run rfl (e_val rfl (y_p rfl) ?_)
    refine o_run rfl (e_val rfl (y_p rfl) ?_)
    refine w_nil ?_
    refine q_then ?_
    refine w_seq ?_
    refine w_region ?_
    refine o_run rfl (e_val rfl (y_p rfl) ?_)
    refine o_run rfl (e_callV rfl rfl (c_Date0 _) rfl ?_)
    refine o_run rfl (e_val rfl (y_p rfl) ?_)
    refine o_run rfl (e_val rfl (y_p rfl) ?_)
    refine o_run rfl (e_val rfl (y_p rfl) ?_)
    refine o_run rfl (e_val rfl (y_p rfl) ?_)
    refine o_run rfl (e_val rfl (y_p rfl) ?_)
    refine w_nil ?_
    refine q_then ?_
    refine w_seq ?_
    refine w_region ?_
    refine o_run rfl (e_val rfl (y_p rfl) ?_)
    refine o_run rfl (e_val rfl (y_p rfl) ?_)
    refine g_no rfl rfl rfl rfl ?_
    refine o_run rfl (e_val rfl (y_p rfl) ?_)
    refine o_run rfl (e_val rfl (y_p rfl) ?_)
    refine g_no rfl rfl rfl rfl ?_
    refine g_no rfl rfl rfl rfl ?_
    refine g_no rfl rfl rfl rfl ?_
    refine o_run rfl (e_val rfl (y_p rfl) ?_)
    refine o_run rfl (e_val rfl (y_p rfl) ?_)
    refine g_no rfl rfl rfl rfl ?_
    refine g_no rfl rfl rfl rfl ?_
    refine g_no rfl rfl rfl rfl ?_
    refine g_no rfl rfl rfl rfl ?_
    refine o_run rfl (e_val rfl (y_p rfl) ?_)
    refine o_run rfl (e_val rfl (y_p rfl) ?_)
    refine w_nil ?_
    refine q_then ?_
    refine w_ret ?_
    refine PW.clear ?_
    refine r_one rfl rfl ?_
    -- leaf 3
    rfl

theorem c_Applies0 (F : FH) (m target : List UInt8) (minor : Int) (vf : Value) (code : Int) (hv : SlAt F encF vf []) : FnV Tryz.prog 28 [.agg (List.toArray [str m, str target, int minor, vf]), .agg (List.toArray (metaC code))] F (.bool false) := by
  refine fn_walk Tryz.func28 (by kernel_rfl) rfl rfl rfl ?_
  intro w0
  simp only [numb, List.map_nil, List.map_cons, Nat.zero_add, Nat.reduceAdd, List.cons_append, List.nil_append]
  refine w_seq ?_
  refine w_region ?_
  refine o_run rfl (e_box rfl rfl rfl (fun b2 => ?_))
  refine o_run rfl (e_box rfl rfl rfl (fun b3 => ?_))
  refine o_run rfl (e_val rfl (y_p rfl) ?_)
  refine w_nil ?_
  refine q_then ?_
  refine w_seq ?_
  refine w_seq ?_
  refine w_region ?_
  refine o_run rfl (e_val rfl (y_fa fo37_3 rfl) ?_)
  refine o_run rfl (e_val rfl (y_ld ty27 rfl rfl) ?_)
  refine o_run rfl (e_callV rfl rfl (c_one0 _ _ hv _ (by decide)) rfl ?_)
  refine o_run rfl (e_val rfl (y_p rfl) ?_)
  refine o_run rfl (e_val rfl (y_p rfl) ?_)
  refine o_run rfl (e_val rfl (y_p rfl) ?_)
  refine o_run rfl (e_val rfl (y_p rfl) ?_)
  refine o_run rfl (e_val rfl (y_p rfl) ?_)
  refine w_nil ?_
  refine q_then ?_
  refine w_seq ?_
  refine w_region ?_
  refine o_run rfl (e_val rfl (y_p rfl) ?_)
  refine o_run rfl (e_val rfl (y_p rfl) ?_)
  refine o_run rfl (e_val rfl (y_p rfl) ?_)
  refine g_no rfl rfl rfl rfl ?_
  refine g_no rfl rfl rfl rfl ?_
  refine g_no rfl rfl rfl rfl ?_
  refine o_run rfl (e_val rfl (y_p rfl) ?_)
  refine w_nil ?_
  refine q_then ?_
  refine w_condT rfl ?_
  refine w_seq ?_
  refine w_region ?_
  refine o_run rfl (e_val rfl (y_p rfl) ?_)
  refine w_nil ?_
  refine q_then ?_
  refine w_ret ?_
  refine q_thenR ?_
  refine PW.clear ?_
  refine r_one rfl rfl ?_
  -- leaf 1
  rfl

theorem c_Answer0 (F : FH) (bo : Nat) (rs : List Rl) (gens : List Int) (m target path host : List UInt8) (minor : Int) (vf : Value) (ok : Bool) (hO : OrigAt F bo rs gens) (hp : ∀ G, FnV Tryz.prog 48 [str target] G (.tuple #[str path, str host, .bool ok])) (hl : rs.length ≤ 1000000) (hrs : ∀ r ∈ rs, RlOk r ∧ r.fs = []) (hv : SlAt F encF vf []) : Fn Tryz.prog 8 [.pointer (some ⟨bo, 0, none⟩), .agg (List.toArray [str m, str target, int minor, vf])] F [] (fun r F' _ => if findI path ok rs < 0 then r = .agg (List.toArray (replyC (findI path ok rs) 0 404 (reasonL 404) nilV nilV 0 (-1))) else ∃ (j : Nat) (hj : j < rs.length) (fv bv : Value), findI path ok rs = (j : Int) ∧ r = .agg (List.toArray (replyC j (gens.getD j 0) rs[j].code (reasonL rs[j].code) fv bv rs[j].wait (max (-1) rs[j].cut))) ∧ SlAt F' encF fv [] ∧ SlAt F' encB bv rs[j].body) := by
  have hl0 := hl
  have hO0 := hO
  obtain ⟨bg, vr, ys, hbo, hbg, hgl, rfl, hya, hys⟩ := hO.ex
  obtain ⟨a0, cap0, rfl, hcase⟩ := hys.at
  rw [List.length_map] at hl hbo hgl
  refine fn_walk Tryz.func8 (by kernel_rfl) rfl rfl rfl ?_
  intro w0
  simp only [numb, List.map_nil, List.map_cons, Nat.zero_add, Nat.reduceAdd, List.cons_append, List.nil_append]
  refine w_seq ?_
  refine w_region ?_
  refine o_run rfl (e_box rfl rfl rfl (fun b3 => ?_))
  refine o_run rfl (e_alloc ty34 rfl rfl (fun b4 => ?_))
  refine w_nil ?_
  refine q_then ?_
  refine w_seq ?_
  refine w_seq ?_
  refine w_region ?_
  refine o_run rfl (e_val rfl (y_p rfl) ?_)
  refine o_run rfl (e_val rfl (y_peq ty23 rfl) ?_)
  refine o_run rfl (e_val rfl (y_p rfl) ?_)
  refine o_yes rfl rfl rfl (e_val rfl (y_p rfl) ?_)
  refine o_yes rfl rfl rfl (e_val rfl (y_p rfl) ?_)
  refine o_yes rfl rfl rfl (e_val rfl (y_fa fo63_0 rfl) ?_)
  refine o_yes rfl rfl rfl (e_val rfl (y_ldF ty4 rfl hbo rfl) ?_)
  refine o_yes rfl rfl rfl (e_val rfl (y_p rfl) ?_)
  refine o_run rfl (e_val rfl (y_p rfl) ?_)
  refine w_nil ?_
  refine q_then ?_
  refine w_condF rfl ?_
  refine w_skip ?_
  refine q_then ?_
  refine w_seq ?_
  refine w_region ?_
  refine o_run rfl (e_val rfl (y_p rfl) ?_)
  refine o_run rfl (e_val rfl (y_ld ty37 rfl rfl) ?_)
  refine o_run rfl (e_callV rfl rfl (c_find _ _ _ _ _ _ _ _ _ _ _ hO0 hp hl0) rfl ?_)
  refine o_run rfl (e_val rfl (y_p rfl) ?_)
  refine w_nil ?_
  refine q_then ?_
  refine w_seq ?_
  refine w_seq ?_
  refine w_region ?_
  refine o_run rfl (e_val rfl (y_p rfl) ?_)
  refine o_run rfl (e_val rfl (y_p rfl) ?_)
  refine w_nil ?_
  refine q_then ?_
  first | refine w_condD rfl (fun h1 => ?_) (fun h1 => ?_) | refine w_condN rfl (fun h1 => ?_) (fun h1 => ?_) | refine w_cond rfl (fun h1 => ?_) (fun h1 => ?_)
  · refine w_seq ?_
    refine w_region ?_
    refine o_run rfl (e_val rfl (y_p rfl) ?_)
    refine o_run rfl (e_callV rfl rfl (c_Reason _ _) rfl ?_)
    refine o_run rfl (e_val rfl (y_build pl32 rfl rfl) ?_)
    refine o_run rfl (e_val rfl (y_build pl34 rfl rfl) ?_)
    refine o_run rfl (e_st ty34 rfl rfl rfl rfl rfl rfl ?_)
    refine w_nil ?_
    refine q_then ?_
    refine w_ret ?_
    refine q_thenR ?_
    refine r_cell1 [] rfl ty34 rfl rfl ?_
    -- leaf 1
    rw [if_pos h1]
    rfl
  · refine w_skip ?_
    refine q_then ?_
    refine w_seq ?_
    refine w_region ?_
    obtain ⟨k, hk, hkl⟩ := findI_nat h1
    have hkl0 := hkl
    rw [List.length_map] at hkl
    rw [hk]
    obtain ⟨b0, off0, rfl, hcap0, hC⟩ := hcase (by intro h; simp [h] at hkl)
    have hyk := hya ys[k] (List.getElem_mem hkl)
    obtain ⟨hok, hfs⟩ := hrs ys[k].r (List.mem_map.2 ⟨_, List.getElem_mem hkl, rfl⟩)
    refine o_run rfl (e_val rfl (y_p rfl) ?_)
    refine o_run rfl (e_val rfl (y_p rfl) ?_)
    refine o_run rfl (e_val rfl (y_fa fo63_1 rfl) ?_)
    refine o_run rfl (e_val rfl (y_ldF ty30 rfl hbo rfl) ?_)
    refine o_run rfl (e_val rfl (y_p rfl) ?_)
    refine o_run rfl (e_val rfl (y_ia ty30 ty29 rfl rfl (by omega)) ?_)
    refine o_run rfl (e_val rfl (y_ldC ty29 rfl hC (ld_fm encR_len ys hkl)) ?_)
    refine o_run rfl (e_callK rfl rfl (c_ownR _ _ hyk hok) (List.Perm.refl _) rfl (fun r7 Γ7 hR7 => ?_))
    obtain ⟨fv7, bv7, Γf, Γb, rfl, hOf, hOb, rfl⟩ := hR7
    obtain ⟨pf, cf, rfl⟩ := hOf.val
    obtain ⟨pb, cb, rfl⟩ := hOb.val
    rw [List.append_assoc]
    refine PW.freezeOwn hOf (List.Perm.refl _) (fun F1 hF1 hS1 => ?_)
    refine PW.freezeOwn hOb (List.Perm.refl _) (fun F2 hF2 hS2 => ?_)
    have hF02 := hF1.trans hF2
    have hS1 := hS1.mono hF2
    refine o_run rfl (e_alloc ty29 rfl rfl (fun b6 => ?_))
    refine o_run rfl (e_st ty29 rfl rfl rfl rfl rfl rfl ?_)
    refine w_nil ?_
    refine q_then ?_
    refine w_seq ?_
    refine w_drawA [0, 1, 2, 3, 4, 5, 6, 7, 8, 10, 11, 12, 13, 14, 15, 16, 17] mixed ?_
    refine a_val (i := 0) (listed' := #[true, false, false, false, false, false, false, false, false, false, false, false, false, false, false, false, false, false, false, false]) rfl rfl rfl (by kernel_rfl) (by kernel_rfl) (by kernel_rfl) rfl (by kernel_rfl) rfl (by repeat (first | exact np_post | refine np_then ?_ | refine np_in ?_)) (by first | (intro p hp; (repeat (first | exact hp | apply List.mem_cons_of_mem | apply List.mem_append_right)); done) | (repeat (first | exact in_nil | refine in_cons (by repeat (first | exact List.mem_cons_self | apply List.mem_cons_of_mem | apply List.mem_append_right)) ?_))) (by first | exact Le.refl _ | assumption | exact Le.trans ‹_› ‹_›) rfl (y_p rfl) ?_
    refine a_val (i := 1) (listed' := #[true, true, false, false, false, false, false, false, false, false, false, false, false, false, false, false, false, false, false, false]) rfl rfl rfl (by kernel_rfl) (by kernel_rfl) (by kernel_rfl) rfl (by kernel_rfl) rfl (by repeat (first | exact np_post | refine np_then ?_ | refine np_in ?_)) (by first | (intro p hp; (repeat (first | exact hp | apply List.mem_cons_of_mem | apply List.mem_append_right)); done) | (repeat (first | exact in_nil | refine in_cons (by repeat (first | exact List.mem_cons_self | apply List.mem_cons_of_mem | apply List.mem_append_right)) ?_))) (by first | exact Le.refl _ | assumption | exact Le.trans ‹_› ‹_›) rfl (y_p rfl) ?_
    refine a_val (i := 2) (listed' := #[true, true, true, false, false, false, false, false, false, false, false, false, false, false, false, false, false, false, false, false]) rfl rfl rfl (by kernel_rfl) (by kernel_rfl) (by kernel_rfl) rfl (by kernel_rfl) rfl (by repeat (first | exact np_post | refine np_then ?_ | refine np_in ?_)) (by first | (intro p hp; (repeat (first | exact hp | apply List.mem_cons_of_mem | apply List.mem_append_right)); done) | (repeat (first | exact in_nil | refine in_cons (by repeat (first | exact List.mem_cons_self | apply List.mem_cons_of_mem | apply List.mem_append_right)) ?_))) (by first | exact Le.refl _ | assumption | exact Le.trans ‹_› ‹_›) rfl (y_p rfl) ?_
    refine a_val (i := 3) (listed' := #[true, true, true, true, false, false, false, false, false, false, false, false, false, false, false, false, false, false, false, false]) rfl rfl rfl (by kernel_rfl) (by kernel_rfl) (by kernel_rfl) rfl (by kernel_rfl) rfl (by repeat (first | exact np_post | refine np_then ?_ | refine np_in ?_)) (by first | (intro p hp; (repeat (first | exact hp | apply List.mem_cons_of_mem | apply List.mem_append_right)); done) | (repeat (first | exact in_nil | refine in_cons (by repeat (first | exact List.mem_cons_self | apply List.mem_cons_of_mem | apply List.mem_append_right)) ?_))) (by first | exact Le.refl _ | assumption | exact Le.trans ‹_› ‹_›) rfl (y_fa fo63_2 rfl) ?_
    refine a_val (i := 4) (listed' := #[true, true, true, true, true, false, false, false, false, false, false, false, false, false, false, false, false, false, false, false]) rfl rfl rfl (by kernel_rfl) (by kernel_rfl) (by kernel_rfl) rfl (by kernel_rfl) rfl (by repeat (first | exact np_post | refine np_then ?_ | refine np_in ?_)) (by first | (intro p hp; (repeat (first | exact hp | apply List.mem_cons_of_mem | apply List.mem_append_right)); done) | (repeat (first | exact in_nil | refine in_cons (by repeat (first | exact List.mem_cons_self | apply List.mem_cons_of_mem | apply List.mem_append_right)) ?_))) (by first | exact Le.refl _ | assumption | exact Le.trans ‹_› ‹_›) rfl (y_ldF ty61 rfl (hF02 _ _ hbo) rfl) ?_
    refine a_val (i := 5) (listed' := #[true, true, true, true, true, true, false, false, false, false, false, false, false, false, false, false, false, false, false, false]) rfl rfl rfl (by kernel_rfl) (by kernel_rfl) (by kernel_rfl) rfl (by kernel_rfl) rfl (by repeat (first | exact np_post | refine np_then ?_ | refine np_in ?_)) (by first | (intro p hp; (repeat (first | exact hp | apply List.mem_cons_of_mem | apply List.mem_append_right)); done) | (repeat (first | exact in_nil | refine in_cons (by repeat (first | exact List.mem_cons_self | apply List.mem_cons_of_mem | apply List.mem_append_right)) ?_))) (by first | exact Le.refl _ | assumption | exact Le.trans ‹_› ‹_›) rfl (y_p rfl) ?_
    refine a_val (i := 6) (listed' := #[true, true, true, true, true, true, true, false, false, false, false, false, false, false, false, false, false, false, false, false]) rfl rfl rfl (by kernel_rfl) (by kernel_rfl) (by kernel_rfl) rfl (by kernel_rfl) rfl (by repeat (first | exact np_post | refine np_then ?_ | refine np_in ?_)) (by first | (intro p hp; (repeat (first | exact hp | apply List.mem_cons_of_mem | apply List.mem_append_right)); done) | (repeat (first | exact in_nil | refine in_cons (by repeat (first | exact List.mem_cons_self | apply List.mem_cons_of_mem | apply List.mem_append_right)) ?_))) (by first | exact Le.refl _ | assumption | exact Le.trans ‹_› ‹_›) rfl (y_ia ty61 ty3 rfl rfl (by omega)) ?_
    refine a_val (i := 7) (listed' := #[true, true, true, true, true, true, true, true, false, false, false, false, false, false, false, false, false, false, false, false]) rfl rfl rfl (by kernel_rfl) (by kernel_rfl) (by kernel_rfl) rfl (by kernel_rfl) rfl (by repeat (first | exact np_post | refine np_then ?_ | refine np_in ?_)) (by first | (intro p hp; (repeat (first | exact hp | apply List.mem_cons_of_mem | apply List.mem_append_right)); done) | (repeat (first | exact in_nil | refine in_cons (by repeat (first | exact List.mem_cons_self | apply List.mem_cons_of_mem | apply List.mem_append_right)) ?_))) (by first | exact Le.refl _ | assumption | exact Le.trans ‹_› ‹_›) rfl (y_ldC ty3 rfl (Cs.blk (hF02 _ _ hbg)) (by rw [map_flat]; exact ld_fm1 (f := int) gens (by omega))) ?_
    refine a_val (i := 8) (listed' := #[true, true, true, true, true, true, true, true, true, false, false, false, false, false, false, false, false, false, false, false]) rfl rfl rfl (by kernel_rfl) (by kernel_rfl) (by kernel_rfl) rfl (by kernel_rfl) rfl (by repeat (first | exact np_post | refine np_then ?_ | refine np_in ?_)) (by first | (intro p hp; (repeat (first | exact hp | apply List.mem_cons_of_mem | apply List.mem_append_right)); done) | (repeat (first | exact in_nil | refine in_cons (by repeat (first | exact List.mem_cons_self | apply List.mem_cons_of_mem | apply List.mem_append_right)) ?_))) (by first | exact Le.refl _ | assumption | exact Le.trans ‹_› ‹_›) rfl (y_ld ty29 rfl rfl) ?_
    refine a_val (i := 10) (listed' := #[true, true, true, true, true, true, true, true, true, false, true, false, false, false, false, false, false, false, false, false]) rfl rfl rfl (by kernel_rfl) (by kernel_rfl) (by kernel_rfl) rfl (by kernel_rfl) rfl (by repeat (first | exact np_post | refine np_then ?_ | refine np_in ?_)) (by first | (intro p hp; (repeat (first | exact hp | apply List.mem_cons_of_mem | apply List.mem_append_right)); done) | (repeat (first | exact in_nil | refine in_cons (by repeat (first | exact List.mem_cons_self | apply List.mem_cons_of_mem | apply List.mem_append_right)) ?_))) (by first | exact Le.refl _ | assumption | exact Le.trans ‹_› ‹_›) rfl (y_fa fo29_3 rfl) ?_
    refine a_val (i := 11) (listed' := #[true, true, true, true, true, true, true, true, true, false, true, true, false, false, false, false, false, false, false, false]) rfl rfl rfl (by kernel_rfl) (by kernel_rfl) (by kernel_rfl) rfl (by kernel_rfl) rfl (by repeat (first | exact np_post | refine np_then ?_ | refine np_in ?_)) (by first | (intro p hp; (repeat (first | exact hp | apply List.mem_cons_of_mem | apply List.mem_append_right)); done) | (repeat (first | exact in_nil | refine in_cons (by repeat (first | exact List.mem_cons_self | apply List.mem_cons_of_mem | apply List.mem_append_right)) ?_))) (by first | exact Le.refl _ | assumption | exact Le.trans ‹_› ‹_›) rfl (y_ld ty22 rfl rfl) ?_
    refine a_val (i := 12) (listed' := #[true, true, true, true, true, true, true, true, true, false, true, true, true, false, false, false, false, false, false, false]) rfl rfl rfl (by kernel_rfl) (by kernel_rfl) (by kernel_rfl) rfl (by kernel_rfl) rfl (by repeat (first | exact np_post | refine np_then ?_ | refine np_in ?_)) (by first | (intro p hp; (repeat (first | exact hp | apply List.mem_cons_of_mem | apply List.mem_append_right)); done) | (repeat (first | exact in_nil | refine in_cons (by repeat (first | exact List.mem_cons_self | apply List.mem_cons_of_mem | apply List.mem_append_right)) ?_))) (by first | exact Le.refl _ | assumption | exact Le.trans ‹_› ‹_›) rfl (y_fa fo29_4 rfl) ?_
    refine a_val (i := 13) (listed' := #[true, true, true, true, true, true, true, true, true, false, true, true, true, true, false, false, false, false, false, false]) rfl rfl rfl (by kernel_rfl) (by kernel_rfl) (by kernel_rfl) rfl (by kernel_rfl) rfl (by repeat (first | exact np_post | refine np_then ?_ | refine np_in ?_)) (by first | (intro p hp; (repeat (first | exact hp | apply List.mem_cons_of_mem | apply List.mem_append_right)); done) | (repeat (first | exact in_nil | refine in_cons (by repeat (first | exact List.mem_cons_self | apply List.mem_cons_of_mem | apply List.mem_append_right)) ?_))) (by first | exact Le.refl _ | assumption | exact Le.trans ‹_› ‹_›) rfl (y_ld ty3 rfl rfl) ?_
    refine a_val (i := 14) (listed' := #[true, true, true, true, true, true, true, true, true, false, true, true, true, true, true, false, false, false, false, false]) rfl rfl rfl (by kernel_rfl) (by kernel_rfl) (by kernel_rfl) rfl (by kernel_rfl) rfl (by repeat (first | exact np_post | refine np_then ?_ | refine np_in ?_)) (by first | (intro p hp; (repeat (first | exact hp | apply List.mem_cons_of_mem | apply List.mem_append_right)); done) | (repeat (first | exact in_nil | refine in_cons (by repeat (first | exact List.mem_cons_self | apply List.mem_cons_of_mem | apply List.mem_append_right)) ?_))) (by first | exact Le.refl _ | assumption | exact Le.trans ‹_› ‹_›) rfl (y_fa fo29_5 rfl) ?_
    refine a_val (i := 15) (listed' := #[true, true, true, true, true, true, true, true, true, false, true, true, true, true, true, true, false, false, false, false]) rfl rfl rfl (by kernel_rfl) (by kernel_rfl) (by kernel_rfl) rfl (by kernel_rfl) rfl (by repeat (first | exact np_post | refine np_then ?_ | refine np_in ?_)) (by first | (intro p hp; (repeat (first | exact hp | apply List.mem_cons_of_mem | apply List.mem_append_right)); done) | (repeat (first | exact in_nil | refine in_cons (by repeat (first | exact List.mem_cons_self | apply List.mem_cons_of_mem | apply List.mem_append_right)) ?_))) (by first | exact Le.refl _ | assumption | exact Le.trans ‹_› ‹_›) rfl (y_ld ty3 rfl rfl) ?_
    refine a_val (i := 16) (listed' := #[true, true, true, true, true, true, true, true, true, false, true, true, true, true, true, true, true, false, false, false]) rfl rfl rfl (by kernel_rfl) (by kernel_rfl) (by kernel_rfl) rfl (by kernel_rfl) rfl (by repeat (first | exact np_post | refine np_then ?_ | refine np_in ?_)) (by first | (intro p hp; (repeat (first | exact hp | apply List.mem_cons_of_mem | apply List.mem_append_right)); done) | (repeat (first | exact in_nil | refine in_cons (by repeat (first | exact List.mem_cons_self | apply List.mem_cons_of_mem | apply List.mem_append_right)) ?_))) (by first | exact Le.refl _ | assumption | exact Le.trans ‹_› ‹_›) rfl (y_max rfl rfl) ?_
    refine a_two (i := 9) (j := 18) (l1 := #[true, true, true, true, true, true, true, true, true, true, true, true, true, true, true, true, true, false, false, false]) (l2 := #[true, true, true, true, true, true, true, true, true, false, true, true, true, true, true, true, true, false, true, false]) rfl rfl rfl rfl (by kernel_rfl) rfl rfl rfl rfl (.inr ⟨(by first | (intro p hp; (repeat (first | exact hp | apply List.mem_cons_of_mem | apply List.mem_append_right)); done) | (repeat (first | exact in_nil | refine in_cons (by repeat (first | exact List.mem_cons_self | apply List.mem_cons_of_mem | apply List.mem_append_right)) ?_))), (by first | exact Le.refl _ | assumption | exact Le.trans ‹_› ‹_›)⟩) ?_ ?_
    · refine e_callK rfl rfl (c_headOf _ ⟨ys[k].r, _, _⟩ ⟨hS1, hS2⟩ hok) (List.Perm.refl _) rfl (fun r9 Γ9 hR9 => ?_)
      obtain ⟨fv9, rfl, hO9⟩ := hR9
      obtain ⟨p9, c9, rfl⟩ := hO9.val
      refine PW.freezeOwn hO9 (List.Perm.refl _) (fun F3 hF3 hS3 => ?_)
      have hF23 := hF3
      have hF03 := hF02.trans hF3
      have hS4 : ∀ l, l = ys[k].r.fs → SlAt F3 encF (.slice p9 ys[k].r.fs.length c9) l := fun l hl => by subst hl; exact hS3
      have hS5 := hS4 [] hfs.symm
      refine a_val (i := 17) (listed' := #[true, true, true, true, true, true, true, true, true, true, true, true, true, true, true, true, true, true, false, false]) rfl rfl rfl (by kernel_rfl) (by kernel_rfl) (by kernel_rfl) rfl (by kernel_rfl) rfl (by repeat (first | exact np_post | refine np_then ?_ | refine np_in ?_)) (by first | (intro p hp; (repeat (first | exact hp | apply List.mem_cons_of_mem | apply List.mem_append_right)); done) | (repeat (first | exact in_nil | refine in_cons (by repeat (first | exact List.mem_cons_self | apply List.mem_cons_of_mem | apply List.mem_append_right)) ?_))) (by first | exact Le.refl _ | assumption | exact Le.trans ‹_› ‹_›) rfl (y_build pl34 rfl rfl) ?_
      refine a_one (i := 18) (listed' := #[true, true, true, true, true, true, true, true, true, true, true, true, true, true, true, true, true, true, true, false]) rfl rfl (by kernel_rfl) rfl rfl (.inr ⟨(by first | (intro p hp; (repeat (first | exact hp | apply List.mem_cons_of_mem | apply List.mem_append_right)); done) | (repeat (first | exact in_nil | refine in_cons (by repeat (first | exact List.mem_cons_self | apply List.mem_cons_of_mem | apply List.mem_append_right)) ?_))), (by first | exact Le.refl _ | assumption | exact Le.trans ‹_› ‹_›)⟩) (e_alloc ty34 rfl rfl (fun b7 => ?_))
      refine a_one (i := 19) (listed' := #[true, true, true, true, true, true, true, true, true, true, true, true, true, true, true, true, true, true, true, true]) rfl rfl (by kernel_rfl) rfl rfl (.inr ⟨(by first | (intro p hp; (repeat (first | exact hp | apply List.mem_cons_of_mem | apply List.mem_append_right)); done) | (repeat (first | exact in_nil | refine in_cons (by repeat (first | exact List.mem_cons_self | apply List.mem_cons_of_mem | apply List.mem_append_right)) ?_))), (by first | exact Le.refl _ | assumption | exact Le.trans ‹_› ‹_›)⟩) (e_st ty34 rfl rfl rfl rfl rfl rfl ?_)
      refine a_done (by kernel_rfl) (by kernel_rfl) ?_
      refine q_then ?_
      refine w_seq ?_
      refine w_region ?_
      refine o_run rfl (e_val rfl (y_p rfl) ?_)
      refine o_run rfl (e_val rfl (y_p rfl) ?_)
      refine w_nil ?_
      refine q_then ?_
      refine w_seq ?_
      refine w_region ?_
      refine o_run rfl (e_val rfl (y_fa fo34_2 rfl) ?_)
      refine o_run rfl (e_val rfl (y_ld ty32 rfl rfl) ?_)
      refine o_run rfl (e_callV rfl rfl (c_metaOf0 _ _ _ _ hS5) rfl ?_)
      refine o_run rfl (e_alloc ty72 rfl rfl (fun b9 => ?_))
      refine o_run rfl (e_st ty72 rfl rfl rfl rfl rfl rfl ?_)
      refine w_nil ?_
      refine q_then ?_
      refine w_seq ?_
      refine w_block ?_
      refine w_seq ?_
      refine w_region ?_
      refine o_run rfl (e_val rfl (y_fa fo29_1 rfl) ?_)
      refine o_run rfl (e_val rfl (y_ld ty3 rfl rfl) ?_)
      refine o_run rfl (e_val rfl (y_p rfl) ?_)
      refine o_run rfl (e_val rfl (y_p rfl) ?_)
      refine w_nil ?_
      refine q_then ?_
      first | refine w_condD rfl (fun h2 => ?_) (fun h2 => ?_) | refine w_condN rfl (fun h2 => ?_) (fun h2 => ?_) | refine w_cond rfl (fun h2 => ?_) (fun h2 => ?_)
      · refine w_seq ?_
        refine w_region ?_
        refine o_run rfl (e_val rfl (y_ld ty34 rfl rfl) ?_)
        refine o_run rfl (e_st ty34 rfl rfl rfl rfl rfl rfl ?_)
        refine w_nil ?_
        refine q_then ?_
        refine w_ret ?_
        refine q_inR ?_
        refine q_thenR ?_
        refine r_cell1 [] rfl ty34 rfl rfl ?_
        -- leaf 2
        rw [if_neg (by omega)]
        refine ⟨k, hkl0, _, _, rfl, ?_, hS5, by rw [List.getElem_map]; exact hS2.mono hF3⟩
        have hgd : gens.getD k 0 = gens[k]'(by omega) := by simp [List.getD, List.getElem?_eq_getElem (show k < gens.length by omega)]
        have hmx : max (-1) ys[k].r.cut = if ys[k].r.cut > -1 then ys[k].r.cut else -1 := by split <;> omega
        rw [List.getElem_map, hgd, hmx]
        rfl
      · refine w_seq ?_
        refine w_region ?_
        refine o_run rfl (e_val rfl (y_ld ty37 rfl rfl) ?_)
        refine o_run rfl (e_val rfl (y_ld ty72 rfl rfl) ?_)
        refine o_run rfl (e_callV rfl rfl (c_Unchanged0 _ _ _ _ _ _ (hv.mono hF03)) rfl ?_)
        refine o_run rfl (e_val rfl (y_p rfl) ?_)
        refine w_nil ?_
        refine q_then ?_
        refine w_condF rfl ?_
        refine w_seq ?_
        refine w_region ?_
        refine o_run rfl (e_val rfl (y_ld ty37 rfl rfl) ?_)
        refine o_run rfl (e_val rfl (y_ld ty72 rfl rfl) ?_)
        refine o_run rfl (e_callV rfl rfl (c_Applies0 _ _ _ _ _ _ (hv.mono hF03)) rfl ?_)
        refine o_run rfl (e_val rfl (y_p rfl) ?_)
        refine o_run rfl (e_val rfl (y_p rfl) ?_)
        refine w_nil ?_
        refine q_then ?_
        refine w_condT rfl ?_
        refine w_seq ?_
        refine w_region ?_
        refine o_run rfl (e_val rfl (y_ld ty34 rfl rfl) ?_)
        refine o_run rfl (e_st ty34 rfl rfl rfl rfl rfl rfl ?_)
        refine w_nil ?_
        refine q_then ?_
        refine w_ret ?_
        refine q_inR ?_
        refine q_thenR ?_
        refine r_cell1 [] rfl ty34 rfl rfl ?_
        -- leaf 3
        rw [if_neg (by omega)]
        refine ⟨k, hkl0, _, _, rfl, ?_, hS5, by rw [List.getElem_map]; exact hS2.mono hF3⟩
        have hgd : gens.getD k 0 = gens[k]'(by omega) := by simp [List.getD, List.getElem?_eq_getElem (show k < gens.length by omega)]
        have hmx : max (-1) ys[k].r.cut = if ys[k].r.cut > -1 then ys[k].r.cut else -1 := by split <;> omega
        rw [List.getElem_map, hgd, hmx]
        rfl
    · refine e_alloc ty34 rfl rfl (fun b7 => ?_)
      refine a_one (i := 9) (listed' := #[true, true, true, true, true, true, true, true, true, true, true, true, true, true, true, true, true, false, true, false]) rfl rfl (by kernel_rfl) rfl rfl (.inr ⟨(by first | (intro p hp; (repeat (first | exact hp | apply List.mem_cons_of_mem | apply List.mem_append_right)); done) | (repeat (first | exact in_nil | refine in_cons (by repeat (first | exact List.mem_cons_self | apply List.mem_cons_of_mem | apply List.mem_append_right)) ?_))), (by first | exact Le.refl _ | assumption | exact Le.trans ‹_› ‹_›)⟩) (e_callK rfl rfl (c_headOf _ ⟨ys[k].r, _, _⟩ ⟨hS1, hS2⟩ hok) (List.Perm.refl _) rfl (fun r9 Γ9 hR9 => ?_))
      obtain ⟨fv9, rfl, hO9⟩ := hR9
      obtain ⟨p9, c9, rfl⟩ := hO9.val
      refine PW.freezeOwn hO9 (List.Perm.refl _) (fun F3 hF3 hS3 => ?_)
      have hF23 := hF3
      have hF03 := hF02.trans hF3
      have hS4 : ∀ l, l = ys[k].r.fs → SlAt F3 encF (.slice p9 ys[k].r.fs.length c9) l := fun l hl => by subst hl; exact hS3
      have hS5 := hS4 [] hfs.symm
      refine a_val (i := 17) (listed' := #[true, true, true, true, true, true, true, true, true, true, true, true, true, true, true, true, true, true, true, false]) rfl rfl rfl (by kernel_rfl) (by kernel_rfl) (by kernel_rfl) rfl (by kernel_rfl) rfl (by repeat (first | exact np_post | refine np_then ?_ | refine np_in ?_)) (by first | (intro p hp; (repeat (first | exact hp | apply List.mem_cons_of_mem | apply List.mem_append_right)); done) | (repeat (first | exact in_nil | refine in_cons (by repeat (first | exact List.mem_cons_self | apply List.mem_cons_of_mem | apply List.mem_append_right)) ?_))) (by first | exact Le.refl _ | assumption | exact Le.trans ‹_› ‹_›) rfl (y_build pl34 rfl rfl) ?_
      refine a_one (i := 19) (listed' := #[true, true, true, true, true, true, true, true, true, true, true, true, true, true, true, true, true, true, true, true]) rfl rfl (by kernel_rfl) rfl rfl (.inr ⟨(by first | (intro p hp; (repeat (first | exact hp | apply List.mem_cons_of_mem | apply List.mem_append_right)); done) | (repeat (first | exact in_nil | refine in_cons (by repeat (first | exact List.mem_cons_self | apply List.mem_cons_of_mem | apply List.mem_append_right)) ?_))), (by first | exact Le.refl _ | assumption | exact Le.trans ‹_› ‹_›)⟩) (e_st ty34 rfl rfl rfl rfl rfl rfl ?_)
      refine a_done (by kernel_rfl) (by kernel_rfl) ?_
      refine q_then ?_
      refine w_seq ?_
      refine w_region ?_
      refine o_run rfl (e_val rfl (y_p rfl) ?_)
      refine o_run rfl (e_val rfl (y_p rfl) ?_)
      refine w_nil ?_
      refine q_then ?_
      refine w_seq ?_
      refine w_region ?_
      refine o_run rfl (e_val rfl (y_fa fo34_2 rfl) ?_)
      refine o_run rfl (e_val rfl (y_ld ty32 rfl rfl) ?_)
      refine o_run rfl (e_callV rfl rfl (c_metaOf0 _ _ _ _ hS5) rfl ?_)
      refine o_run rfl (e_alloc ty72 rfl rfl (fun b9 => ?_))
      refine o_run rfl (e_st ty72 rfl rfl rfl rfl rfl rfl ?_)
      refine w_nil ?_
      refine q_then ?_
      refine w_seq ?_
      refine w_block ?_
      refine w_seq ?_
      refine w_region ?_
      refine o_run rfl (e_val rfl (y_fa fo29_1 rfl) ?_)
      refine o_run rfl (e_val rfl (y_ld ty3 rfl rfl) ?_)
      refine o_run rfl (e_val rfl (y_p rfl) ?_)
      refine o_run rfl (e_val rfl (y_p rfl) ?_)
      refine w_nil ?_
      refine q_then ?_
      first | refine w_condD rfl (fun h2 => ?_) (fun h2 => ?_) | refine w_condN rfl (fun h2 => ?_) (fun h2 => ?_) | refine w_cond rfl (fun h2 => ?_) (fun h2 => ?_)
      · refine w_seq ?_
        refine w_region ?_
        refine o_run rfl (e_val rfl (y_ld ty34 rfl rfl) ?_)
        refine o_run rfl (e_st ty34 rfl rfl rfl rfl rfl rfl ?_)
        refine w_nil ?_
        refine q_then ?_
        refine w_ret ?_
        refine q_inR ?_
        refine q_thenR ?_
        refine r_cell1 [] rfl ty34 rfl rfl ?_
        -- leaf 4
        rw [if_neg (by omega)]
        refine ⟨k, hkl0, _, _, rfl, ?_, hS5, by rw [List.getElem_map]; exact hS2.mono hF3⟩
        have hgd : gens.getD k 0 = gens[k]'(by omega) := by simp [List.getD, List.getElem?_eq_getElem (show k < gens.length by omega)]
        have hmx : max (-1) ys[k].r.cut = if ys[k].r.cut > -1 then ys[k].r.cut else -1 := by split <;> omega
        rw [List.getElem_map, hgd, hmx]
        rfl
      · refine w_seq ?_
        refine w_region ?_
        refine o_run rfl (e_val rfl (y_ld ty37 rfl rfl) ?_)
        refine o_run rfl (e_val rfl (y_ld ty72 rfl rfl) ?_)
        refine o_run rfl (e_callV rfl rfl (c_Unchanged0 _ _ _ _ _ _ (hv.mono hF03)) rfl ?_)
        refine o_run rfl (e_val rfl (y_p rfl) ?_)
        refine w_nil ?_
        refine q_then ?_
        refine w_condF rfl ?_
        refine w_seq ?_
        refine w_region ?_
        refine o_run rfl (e_val rfl (y_ld ty37 rfl rfl) ?_)
        refine o_run rfl (e_val rfl (y_ld ty72 rfl rfl) ?_)
        refine o_run rfl (e_callV rfl rfl (c_Applies0 _ _ _ _ _ _ (hv.mono hF03)) rfl ?_)
        refine o_run rfl (e_val rfl (y_p rfl) ?_)
        refine o_run rfl (e_val rfl (y_p rfl) ?_)
        refine w_nil ?_
        refine q_then ?_
        refine w_condT rfl ?_
        refine w_seq ?_
        refine w_region ?_
        refine o_run rfl (e_val rfl (y_ld ty34 rfl rfl) ?_)
        refine o_run rfl (e_st ty34 rfl rfl rfl rfl rfl rfl ?_)
        refine w_nil ?_
        refine q_then ?_
        refine w_ret ?_
        refine q_inR ?_
        refine q_thenR ?_
        refine r_cell1 [] rfl ty34 rfl rfl ?_
        -- leaf 5
        rw [if_neg (by omega)]
        refine ⟨k, hkl0, _, _, rfl, ?_, hS5, by rw [List.getElem_map]; exact hS2.mono hF3⟩
        have hgd : gens.getD k 0 = gens[k]'(by omega) := by simp [List.getD, List.getElem?_eq_getElem (show k < gens.length by omega)]
        have hmx : max (-1) ys[k].r.cut = if ys[k].r.cut > -1 then ys[k].r.cut else -1 := by split <;> omega
        rw [List.getElem_map, hgd, hmx]
        rfl


def bytesS (code : Int) (reason : List UInt8) (l : List Fld) (body m : List UInt8) (cut : Int) : List UInt8 :=
  if (respS 1 code reason l body m).2 = 0 then (if 0 ≤ cut ∧ cut < (respS 1 code reason l body m).1.length then (respS 1 code reason l body m).1.take cut.toNat else (respS 1 code reason l body m).1) else []
theorem sl_eq {F : FH} {v : Value} {a b : List UInt8} (h : SlAt F encB v a) (e : b = a) : SlAt F encB v b := e ▸ h

theorem c_Bytes (F : FH) (hG : Glob F) (rule gen code : Int) (reason body m : List UInt8) (fv bv : Value) (wait cut : Int) (l : List Fld) (hc : I64 code) (hr : reason.length ≤ 1000000000) (hf : SlAt F encF fv l) (hl : FsW l) (hb : SlAt F encB bv body) (hbl : body.length ≤ 1000000000) : Fn Tryz.prog 9 [.agg (List.toArray (replyC rule gen code reason fv bv wait cut)), str m] F [] (fun r F' Γ' => SlAt F' encB r (bytesS code reason l body m cut) ∧ Γ' = []) := by
  refine fn_walk Tryz.func9 (by kernel_rfl) rfl rfl rfl ?_
  intro w0
  simp only [numb, List.map_nil, List.map_cons, Nat.zero_add, Nat.reduceAdd, List.cons_append, List.nil_append]
  refine w_seq ?_
  refine w_region ?_
  refine o_run rfl (e_box rfl rfl rfl (fun b2 => ?_))
  refine o_run rfl (e_val rfl (y_p rfl) ?_)
  refine w_nil ?_
  refine q_then ?_
  refine w_seq ?_
  refine w_region ?_
  refine o_run rfl (e_val rfl (y_fa fo34_2 rfl) ?_)
  refine o_run rfl (e_val rfl (y_ld ty32 rfl rfl) ?_)
  refine o_run rfl (e_val rfl (y_fa fo34_3 rfl) ?_)
  refine o_run rfl (e_val rfl (y_ld ty22 rfl rfl) ?_)
  refine o_run rfl (e_val rfl (y_p rfl) ?_)
  refine o_run rfl (e_call rfl rfl (c_WriteResponse _ hG 1 code reason body m fv bv l (by decide) hc hr hf hl hb hbl) (List.Perm.refl _) rfl (fun r5 F5 Γ5 hR5 hF5 => ?_))
  obtain ⟨v5, rfl, hS5, rfl⟩ := hR5
  obtain ⟨a5, c5, hv5, -⟩ := hS5.at
  subst hv5
  refine o_run rfl (e_val rfl (y_p rfl) ?_)
  refine o_run rfl (e_val rfl (y_p rfl) ?_)
  refine o_run rfl (e_val rfl (y_p rfl) ?_)
  refine o_run rfl (e_val rfl (y_p rfl) ?_)
  refine o_run rfl (e_val rfl (y_p rfl) ?_)
  refine w_nil ?_
  refine q_then ?_
  refine w_seq ?_
  refine w_seq ?_
  refine w_region ?_
  refine o_run rfl (e_val rfl (y_p rfl) ?_)
  refine o_run rfl (e_val rfl (y_p rfl) ?_)
  refine w_nil ?_
  refine q_then ?_
  first | refine w_condD rfl (fun h1 => ?_) (fun h1 => ?_) | refine w_condN rfl (fun h1 => ?_) (fun h1 => ?_) | refine w_cond rfl (fun h1 => ?_) (fun h1 => ?_)
  · refine w_seq ?_
    refine w_region ?_
    refine o_run rfl (e_val rfl (y_p rfl) ?_)
    refine w_nil ?_
    refine q_then ?_
    refine w_ret ?_
    refine q_thenR ?_
    refine PW.clear ?_
    refine r_one rfl rfl ?_
    -- leaf 1
    exact ⟨sl_eq SlAt.nil (by simp only [bytesS]; rw [if_neg h1]), rfl⟩
  · refine w_skip ?_
    refine q_then ?_
    refine w_seq ?_
    refine w_seq ?_
    refine w_region ?_
    refine o_run rfl (e_val rfl (y_fa fo34_5 rfl) ?_)
    refine o_run rfl (e_val rfl (y_ld ty3 rfl rfl) ?_)
    refine o_run rfl (e_val rfl (y_p rfl) ?_)
    refine o_run rfl (e_val rfl (y_p rfl) ?_)
    first | refine PW.wayD (t := 21) rfl rfl (fun h2 => ?_) (fun h2 => ?_) | refine PW.way (t := 21) rfl rfl (fun h2 => ?_) (fun h2 => ?_)
    · refine o_yes rfl rfl rfl (e_val rfl (y_fa fo34_5 rfl) ?_)
      refine o_yes rfl rfl rfl (e_val rfl (y_ld ty3 rfl rfl) ?_)
      refine o_yes rfl rfl rfl (e_val rfl (y_p rfl) ?_)
      refine o_yes rfl rfl rfl (e_val rfl (y_lenL ty22 rfl) ?_)
      refine o_yes rfl rfl rfl (e_val rfl (y_p rfl) ?_)
      refine o_run rfl (e_val rfl (y_p rfl) ?_)
      refine w_nil ?_
      refine q_then ?_
      first | refine w_condD rfl (fun h3 => ?_) (fun h3 => ?_) | refine w_condN rfl (fun h3 => ?_) (fun h3 => ?_) | refine w_cond rfl (fun h3 => ?_) (fun h3 => ?_)
      · refine w_seq ?_
        refine w_region ?_
        refine o_run rfl (e_val rfl (y_p rfl) ?_)
        refine o_run rfl (e_val rfl (y_fa fo34_5 rfl) ?_)
        refine o_run rfl (e_val rfl (y_ld ty3 rfl rfl) ?_)
        refine o_run rfl (e_val rfl (y_slc ty22 ty5 rfl rfl rfl (by have := hS5.cap; omega)) ?_)
        refine o_run rfl (e_val rfl (y_p rfl) ?_)
        refine w_nil ?_
        refine q_then ?_
        refine w_ret ?_
        refine q_thenR ?_
        refine PW.clear ?_
        refine r_one rfl rfl ?_
        -- leaf 2
        have hsub := hS5.sub (sz := 1) (fun _ => rfl) (i := 0) (j := cut.toNat) (Nat.zero_le _) (by omega)
        rw [List.drop_zero] at hsub
        exact ⟨sl_eq hsub (by simp only [bytesS]; rw [if_pos (by omega), if_pos (by omega)]), rfl⟩
      · refine w_skip ?_
        refine q_then ?_
        refine w_seq ?_
        refine w_region ?_
        refine o_run rfl (e_val rfl (y_p rfl) ?_)
        refine o_run rfl (e_val rfl (y_p rfl) ?_)
        refine w_nil ?_
        refine q_then ?_
        refine w_ret ?_
        refine PW.clear ?_
        refine r_one rfl rfl ?_
        -- leaf 3
        exact ⟨sl_eq hS5 (by simp only [bytesS]; rw [if_pos (by omega), if_neg (by omega)]), rfl⟩
    · refine g_no rfl rfl rfl rfl ?_
      refine g_no rfl rfl rfl rfl ?_
      refine g_no rfl rfl rfl rfl ?_
      refine g_no rfl rfl rfl rfl ?_
      refine g_no rfl rfl rfl rfl ?_
      refine o_run rfl (e_val rfl (y_p rfl) ?_)
      refine w_nil ?_
      refine q_then ?_
      refine w_condF rfl ?_
      refine w_skip ?_
      refine q_then ?_
      refine w_seq ?_
      refine w_region ?_
      refine o_run rfl (e_val rfl (y_p rfl) ?_)
      refine o_run rfl (e_val rfl (y_p rfl) ?_)
      refine w_nil ?_
      refine q_then ?_
      refine w_ret ?_
      refine PW.clear ?_
      refine r_one rfl rfl ?_
      -- leaf 4
      exact ⟨sl_eq hS5 (by simp only [bytesS]; rw [if_pos (by omega), if_neg (by omega)]), rfl⟩

end Go.SL
