import Derived.Test.YtgefikehhcgdnaaGreatDoorRules
import Derived.Test.YtgefikehhcgdnaaGreatDoorRowK
import Derived.Test.YtgefikehhcgdnaaGreatDoorCards
import Derived.Test.YtgefikehhcgdnaaGreatDoorTie
/- The law OriginRules holds for every input: the row and its tied card. No condition. -/
namespace Go.Proofs.YtgefikehhcgdnaaGreatDoor
open Go Go.SL Go.ChangeShapes Go.WideShapes Go.ChangeAt Go.RowKit
theorem originRules_glob {W : World} (h : laidMetH Tryz.prog Rows.originRulesRow.laid W) : Glob (heapF W) := by
  rw [MakeChecks.laidMetH_plain _ _ _ (by kernel_rfl)] at h
  obtain ⟨ps, ⟨g0, t0, cs0, f0, p0, q0, hg0, ht0, hv0, hd0, ⟨g1, t1, cs1, f1, p1, q1, hg1, ht1, hv1, hd1, ⟨g2, t2, cs2, f2, p2, q2, hg2, ht2, hv2, hd2, _, _⟩, _⟩, _⟩, _, _⟩ := h
  obtain rfl := Option.some.inj ((show Tryz.prog.globalNamed "internal/strconv.uint64pow10" = some 1 by kernel_rfl).symm.trans hg2)
  obtain rfl := Option.some.inj ((show (Tryz.prog.globals[1]?).map (·.type) = some 288 by kernel_rfl).symm.trans ht2)
  have hc := Lib.cells_of_tab (zs := Lib.pow10Tab) (k := .u64) ty288.u ty272.u (by kernel_rfl) (by kernel_rfl) hd2
  unfold World.var? at hv2
  rw [hg2] at hv2
  simp only [Option.bind_some] at hv2
  cases hb : W.heap[1]? with
  | none => simp [hb] at hv2
  | some o =>
    cases o with
    | cells c u fz =>
      simp [hb] at hv2
      refine ⟨u, fz, ?_⟩
      show W.heap[1]? = _
      rw [hb]
      congr 2
      apply Array.toList_inj.1
      rw [hv2, hc]
    | _ => simp [hb] at hv2
set_option maxRecDepth 100000 in
theorem originRules_lifted (os : Os) (started : os.Started) (H : Type) (enc : TypeId × Value → H) :
    ReturnsInHanded {} Tryz.checked os 4 .any (fun w args => (Rows.originRulesSpec.pre enc Tryz.prog Tryz.f4 [] false w args ∧ laidMetH Tryz.prog Rows.originRulesRow.laid w) ∧ sizedMet enc Tryz.prog Tryz.f4 (OpenSpec.ofChange Rows.originRulesSpec) false w args)
      (Rows.originRulesSpec.post enc Tryz.prog Tryz.f4 false true false false) := by
  refine returns_shaped_and (C := Tryz.checked) (X := fun w _ => laidMetH Tryz.prog Rows.originRulesRow.laid w) (fun _ _ _ hh h => h.of_heap hh) own started (by kernel_rfl) Tryz.func4
    (ChangeSpec.witness_shaped (enc := enc) (C := Tryz.checked) (os := os) (X := fun w _ => laidMetH Tryz.prog Rows.originRulesRow.laid w) false (World.laidAll Tryz.prog os Rows.originRulesRow.laid) #[.slice none 0 0, .int .i64 0, .slice none 0 0] 8 (World.laidAll_os _ _ _)
      (World.shaped_of_ZipB (by kernel_rfl) (by kernel_rfl)) (by kernel_rfl) (by kernel_rfl) (by kernel_rfl)
      (by rw [MakeChecks.laidMetH_plain _ _ _ (by kernel_rfl)]; exact laidMet_laidAll _ (by kernel_rfl) (by kernel_rfl))) ?_
  intro W base args ds gs before hval0 hW hL hSh
  have hval : ∀ (j : Nat) t v, Tryz.f4.params[j]? = some t → args[j]? = some v → Value.okWide Tryz.prog W .any base t v := hval0
  have hW' := hW
  obtain ⟨p, q, hA0, hV, rfl, _, _⟩ := hW
  have hA : DataW.TrodAll enc Tryz.prog W 0 (fun _ => true) true [22, 3, 22] args.toList ds p := hA0
  obtain ⟨v0, v1, v2, d0, d1, d2, p0, p1, p2, rfl, rfl, rfl, h0, h1, h2⟩ := trodAll_three hA
  obtain ⟨rfl, rfl⟩ := trodVars_none hV
  obtain ⟨a0, len0, cap0, rfl⟩ := okWide_slice ty22.u (hval 0 22 v0 rfl rfl)
  obtain ⟨x0, hx0⟩ := open_bytes h0
  obtain ⟨x1, rfl, rfl, rfl, w1⟩ := open_int ty3.u (hval 1 3 v1 rfl rfl) h1
  obtain ⟨a2, len2, cap2, rfl⟩ := okWide_slice ty22.u (hval 2 22 v2 rfl rfl)
  obtain ⟨x2, hx2⟩ := open_bytes h2
  have hcon := c_OriginRules (heapF W) (originRules_glob hL) _ _ x0 x2 x1 hx0 hx2
  refine (hcon.2 W (heapF_holds W)).mono fun e W' ⟨v, F', Γ', he, hv, hh⟩ => ?_
  subst he hv
  exact ⟨_, rfl, post_kept (T := (· < Tryz.prog.types.size)) (t := 4) kidsAll fullAll (by decide) hW' rfl rfl ty4.u rfl (heapF_below hh)⟩
theorem originRules_holds : Rows.OriginRulesSaid :=
  OpenClaim.holds_of_wide 4 Tryz.f4 rfl rfl rfl rfl rfl rfl rfl ⟨rfl, rfl, rfl, rfl, rfl⟩ rfl rfl rfl rfl rfl (by kernel_rfl) Tryz.func4 (by kernel_rfl)
    (of_decide_eq_true (by kernel_rfl)) (by unfold Func.isWrapper; first | (rw [if_pos (by decide +kernel)]; kernel_rfl) | (rw [if_neg (by decide +kernel)]; exact ⟨rfl, rfl⟩))
    (fun os started H enc _ => originRules_lifted os started H enc)
theorem originRules_card : Rows.OriginRulesCardSaid :=
  Claim7.holds_tied_plain_at .later [] [.data, .data, .data, .data, .pinned] true (true, "c6ee50345aa8a21c7803cf005a10e9be0a4adda9f558b88cac91f457e4ab29c2") true originRules_holds (fun _ h => by cases h) (by kernel_rfl) (fun _ h => by cases h) originRules_row_tie rfl ⟨rfl, rfl⟩ (by kernel_rfl) rfl
    (fun f fn hf hfn => by
      obtain rfl : f = 4 := Option.some.inj ((show Tryz.prog.funcNamed "gatepost/gatepostlaw24.OriginRules" = some 4 by kernel_rfl).symm.trans hf) |>.symm
      obtain rfl : fn = Tryz.f4 := (Option.some.inj (Tryz.func4.symm.trans hfn)).symm
      exact ⟨by kernel_rfl, fun j t ht => by
        have hm : t ∈ [22, 3, 22] := by
          have ht' : (#[22, 3, 22] : Array TypeId)[j]? = some t := ht
          simpa using Array.mem_of_getElem? ht'
        have hall : ([22, 3, 22].all fun u => !Tryz.prog.wantsStandIn u) = true := by kernel_rfl
        exact (show Tryz.prog.wantsStandIn t = false by simpa using List.all_eq_true.1 hall t hm)⟩)
    (by kernel_rfl)
end Go.Proofs.YtgefikehhcgdnaaGreatDoor
