import Derived.Test.YtgefikehhcgdnaaGreatDoorFind

/- The origin's change of a rule: contract. No condition. -/
namespace Go.SL
open Go.Proofs
set_option maxRecDepth 10000
theorem upd_set {α : Type} {enc : α → List Value} {sz : Nat} (he : ∀ x, (enc x).length = sz) (l : List α) (junk : List Value) {i : Nat} (hi : i < l.length) (y : α) : upd (l.flatMap enc ++ junk) (0 + i * sz) (enc y) = some ((l.set i y).flatMap enc ++ junk) := by
  have h1 : l = l.take i ++ l[i] :: l.drop (i + 1) := by rw [← List.drop_eq_getElem_cons hi, List.take_append_drop]
  have h2 : l.set i y = l.take i ++ y :: l.drop (i + 1) := List.set_eq_take_append_cons_drop.trans (by rw [if_pos hi])
  have h3 : ((l.take i).flatMap enc).length = i * sz := by rw [flatMap_len he, List.length_take, Nat.min_eq_left (by omega)]
  have h4 := upd_app ((l.take i).flatMap enc) (enc l[i] ++ ((l.drop (i + 1)).flatMap enc ++ junk)) (enc y) (by simp [he])
  rw [h3, he] at h4
  have h5 : (enc l[i] ++ ((l.drop (i + 1)).flatMap enc ++ junk)).drop sz = (l.drop (i + 1)).flatMap enc ++ junk := by
    have : (enc l[i]).length = sz := he _
    rw [← this, List.drop_left]
  rw [h5] at h4
  rw [Nat.zero_add, h2]
  have h6 : l.flatMap enc = (l.take i).flatMap enc ++ (enc l[i] ++ (l.drop (i + 1)).flatMap enc) := (congrArg (List.flatMap enc) h1).trans (by rw [List.flatMap_append, List.flatMap_cons])
  have h7 : l.flatMap enc ++ junk = (l.take i).flatMap enc ++ (enc l[i] ++ ((l.drop (i + 1)).flatMap enc ++ junk)) := by rw [h6]; simp only [List.append_assoc]
  rw [h7, h4, List.flatMap_append, List.flatMap_cons]
  simp only [List.append_assoc]
theorem ld_own {α : Type} {enc : α → List Value} {sz : Nat} (he : ∀ x, (enc x).length = sz) (l : List α) (junk : List Value) {i : Nat} (h : i < l.length) : ldv true sz (l.flatMap enc ++ junk) (0 + (i : Int).toNat * sz) = some (.agg (enc l[i]).toArray) := by
  have h1 := flatMap_seg he l i h
  obtain ⟨g1, g2⟩ := seg_spec h1
  have hle := seg_le h1
  have : seg (l.flatMap enc ++ junk) (i * sz) (enc l[i]).length = some (enc l[i]) := seg_of (fun j v hj => by
    have := g2 j v hj
    have hlt := (List.getElem?_eq_some_iff.1 this).1
    rw [List.getElem?_append_left hlt]; exact this) (by left; rw [List.length_append, he]; omega)
  rw [he] at this
  simp [ldv, this]
theorem fl_map (l : List Int) : (l.flatMap fun x => [int x]) = l.map int := by induction l <;> simp_all
theorem ld_int (l : List Int) {i : Nat} (h : i < l.length) : ldv false 1 (l.map int) (0 + (i : Int).toNat * 1) = some (int (l.getD i 0)) := by simp [ldv, nth_eq, List.getD, h]
theorem upd_int (l : List Int) {i : Nat} (h : i < l.length) (y : Int) : upd (l.map int) (0 + (i : Int).toNat * 1) [int y] = some ((l.set i y).map int) := by
  have := upd_set (enc := fun x => [int x]) (sz := 1) (fun _ => rfl) l [] h y
  rw [fl_map, fl_map, List.append_nil, List.append_nil] at this
  simpa using this
def setBody (r : Rl) (body : List UInt8) : Rl := { r with body := body }
def chB (rs : List Rl) (k : Int) (body : List UInt8) : Bool := if h : 0 ≤ k ∧ k < rs.length then mayB (setBody (rs[k.toNat]'(by omega)) body) else false
theorem chB_at {rs : List Rl} {k : Nat} {body : List UInt8} (h : k < rs.length) : chB rs (k : Int) body = mayB (setBody rs[k] body) := by
  unfold chB
  rw [dif_pos (by omega)]
  rfl

theorem c_Change (F : FH) (hG : Glob F) (Γo : Blks) (p : Value) (rs : List Rl) (gens : List Int) (k : Int) (v : Value) (body : List UInt8) (hI : IsOrigin F Γo p rs gens) (hv : SlAt F encB v body) (hb : body.length ≤ 1000000000) (hrs : ∀ r ∈ rs, RlOk r) (hg : ∀ g ∈ gens, 0 ≤ g ∧ g ≤ 1000000000) : Fn Tryz.prog 10 [p, int k, v] F Γo (fun r F' Γ' => if chB rs k body = true then r = int 0 ∧ IsOrigin F' Γ' p (rs.set k.toNat (setBody (rs.getD k.toNat ⟨[], 0, [], [], 0, 0⟩) body)) (gens.set k.toNat (gens.getD k.toNat 0 + 1)) else r = int 2 ∧ IsOrigin F' Γ' p rs gens) := by
  have hI0 := hI
  obtain ⟨bo, bg, vr, Γr, ys, rfl, rfl, hgl, rfl, hya, hO⟩ := hI
  rw [List.length_map] at *
  obtain ⟨av, cv, rfl, -⟩ := hv.at
  obtain ⟨pr, cr, rfl⟩ := hO.val
  refine fn_walk Tryz.func10 (by kernel_rfl) rfl rfl rfl ?_
  intro w0
  simp only [numb, List.map_nil, List.map_cons, Nat.zero_add, Nat.reduceAdd, List.cons_append, List.nil_append]
  refine w_seq ?_
  refine w_region ?_
  refine o_run rfl (e_val rfl (y_p rfl) ?_)
  refine w_nil ?_
  refine q_then ?_
  refine w_seq ?_
  refine w_seq ?_
  refine w_region ?_
  refine o_run rfl (e_val rfl (y_p rfl) ?_)
  refine o_run rfl (e_val rfl (y_peq ty23 rfl) ?_)
  refine o_run rfl (e_val rfl (y_p rfl) ?_)
  refine o_yes rfl rfl rfl (e_val rfl (y_p rfl) ?_)
  refine o_yes rfl rfl rfl (e_val rfl (y_p rfl) ?_)
  refine o_yes rfl rfl rfl (e_val rfl (y_fa fo63_0 rfl) ?_)
  refine o_yes rfl rfl rfl (e_val rfl (y_ld ty4 rfl rfl) ?_)
  refine o_yes rfl rfl rfl (e_val rfl (y_p rfl) ?_)
  refine o_run rfl (e_val rfl (y_p rfl) ?_)
  refine w_nil ?_
  refine q_then ?_
  refine w_condF rfl ?_
  refine w_skip ?_
  refine q_then ?_
  refine w_seq ?_
  refine w_seq ?_
  refine w_region ?_
  refine o_run rfl (e_val rfl (y_p rfl) ?_)
  refine o_run rfl (e_val rfl (y_p rfl) ?_)
  refine o_run rfl (e_val rfl (y_p rfl) ?_)
  first | refine PW.wayD (t := 19) rfl rfl (fun h1 => ?_) (fun h1 => ?_) | refine PW.way (t := 19) rfl rfl (fun h1 => ?_) (fun h1 => ?_)
  · refine g_no rfl rfl rfl rfl ?_
    refine g_no rfl rfl rfl rfl ?_
    refine g_no rfl rfl rfl rfl ?_
    refine g_no rfl rfl rfl rfl ?_
    refine g_no rfl rfl rfl rfl ?_
    refine g_no rfl rfl rfl rfl ?_
    refine g_no rfl rfl rfl rfl ?_
    refine o_run rfl (e_val rfl (y_p rfl) ?_)
    refine w_nil ?_
    refine q_then ?_
    refine w_condT rfl ?_
    refine w_seq ?_
    refine w_region ?_
    refine o_run rfl (e_val rfl (y_p rfl) ?_)
    refine w_nil ?_
    refine q_then ?_
    refine w_ret ?_
    refine q_thenR ?_
    refine r_one rfl rfl ?_
    -- leaf 1
    rw [if_neg (by unfold chB; rw [dif_neg (by omega)]; decide)]
    exact ⟨rfl, hI0⟩
  · refine o_yes rfl rfl rfl (e_val rfl (y_p rfl) ?_)
    refine o_yes rfl rfl rfl (e_val rfl (y_p rfl) ?_)
    refine o_yes rfl rfl rfl (e_val rfl (y_p rfl) ?_)
    refine o_yes rfl rfl rfl (e_val rfl (y_fa fo63_1 rfl) ?_)
    refine o_yes rfl rfl rfl (e_val rfl (y_ld ty30 rfl rfl) ?_)
    refine o_yes rfl rfl rfl (e_val rfl (y_lenL ty30 rfl) ?_)
    refine o_yes rfl rfl rfl (e_val rfl (y_p rfl) ?_)
    refine o_run rfl (e_val rfl (y_p rfl) ?_)
    refine w_nil ?_
    refine q_then ?_
    first | refine w_condD rfl (fun h2 => ?_) (fun h2 => ?_) | refine w_condN rfl (fun h2 => ?_) (fun h2 => ?_) | refine w_cond rfl (fun h2 => ?_) (fun h2 => ?_)
    · refine w_seq ?_
      refine w_region ?_
      refine o_run rfl (e_val rfl (y_p rfl) ?_)
      refine w_nil ?_
      refine q_then ?_
      refine w_ret ?_
      refine q_thenR ?_
      refine r_one rfl rfl ?_
      -- leaf 2
      rw [if_neg (by unfold chB; rw [dif_neg (by rw [List.length_map]; omega)]; decide)]
      exact ⟨rfl, hI0⟩
    · refine w_skip ?_
      refine q_then ?_
      refine w_seq ?_
      refine w_region ?_
      obtain ⟨j, rfl⟩ : ∃ j : Nat, k = (j : Int) := ⟨k.toNat, by omega⟩
      have hj : j < ys.length := by omega
      rcases hO.2 with ⟨-, h0, -⟩ | ⟨b, cap, junk, fz, hvr, rfl, hcap, hle, hfz⟩
      · omega
      simp only [Value.slice.injEq, true_and] at hvr
      obtain ⟨rfl, rfl⟩ := hvr
      have hyj := hya ys[j] (List.getElem_mem hj)
      have hok := hrs ys[j].r (List.mem_map.2 ⟨_, List.getElem_mem hj, rfl⟩)
      have hlen := flatMap_len encR_len ys
      have hx' : RvAt F ⟨setBody ys[j].r body, ys[j].fv, .slice av body.length cv⟩ := ⟨hyj.fs, hv⟩
      have hok' : RlOk (setBody ys[j].r body) := ⟨hok.pre, hok.code, hok.fs, hb, hok.wait, hok.cut⟩
      have hch := chB_at (rs := ys.map RV.r) (body := body) (show j < (ys.map RV.r).length by simpa using hj)
      rw [List.getElem_map] at hch
      refine o_run rfl (e_val rfl (y_p rfl) ?_)
      refine o_run rfl (e_val rfl (y_p rfl) ?_)
      refine o_run rfl (e_val rfl (y_fa fo63_1 rfl) ?_)
      refine o_run rfl (e_val rfl (y_ld ty30 rfl rfl) ?_)
      refine o_run rfl (e_val rfl (y_p rfl) ?_)
      refine o_run rfl (e_val rfl (y_ia ty30 ty29 rfl rfl (by omega)) ?_)
      refine o_run rfl (e_val rfl (y_ld ty29 rfl (ld_own encR_len ys junk hj)) ?_)
      refine o_run rfl (e_alloc ty29 rfl rfl (fun b7 => ?_))
      refine o_run rfl (e_st ty29 rfl rfl rfl rfl hyj.flat rfl ?_)
      refine w_nil ?_
      refine q_then ?_
      refine w_seq ?_
      refine w_region ?_
      refine o_run rfl (e_val rfl (y_p rfl) ?_)
      refine o_run rfl (e_val rfl (y_fa fo29_3 rfl) ?_)
      refine o_run rfl (e_st ty22 rfl rfl rfl rfl rfl rfl ?_)
      refine w_nil ?_
      refine q_then ?_
      refine w_seq ?_
      refine w_seq ?_
      refine w_region ?_
      refine o_run rfl (e_val rfl (y_ld ty29 (v := .agg (encR ⟨setBody ys[j].r body, ys[j].fv, .slice av body.length cv⟩).toArray) rfl rfl) ?_)
      refine o_run rfl (e_callV rfl rfl (c_mayR _ hG _ hx' hok') rfl ?_)
      refine o_run rfl (e_val rfl (y_p rfl) ?_)
      refine w_nil ?_
      refine q_then ?_
      first | refine w_condD rfl (fun h3 => ?_) (fun h3 => ?_) | refine w_condN rfl (fun h3 => ?_) (fun h3 => ?_) | refine w_cond rfl (fun h3 => ?_) (fun h3 => ?_)
      · refine w_seq ?_
        refine w_region ?_
        refine o_run rfl (e_val rfl (y_p rfl) ?_)
        refine w_nil ?_
        refine q_then ?_
        refine w_ret ?_
        refine q_thenR ?_
        refine PW.sub [_] _ (List.Perm.refl _) ?_
        refine r_one rfl rfl ?_
        -- leaf 3
        have hm : mayB (setBody ys[j].r body) = false := decide_eq_false h3
        rw [if_neg (by rw [hch, hm]; decide)]
        exact ⟨rfl, hI0⟩
      · refine w_skip ?_
        refine q_then ?_
        refine w_seq ?_
        refine w_drawA [0, 1, 2, 3, 4, 5] mixed ?_
        refine a_val (i := 0) (listed' := #[true, false, false, false, false, false, false, false, false]) rfl rfl rfl (by kernel_rfl) (by kernel_rfl) (by kernel_rfl) rfl (by kernel_rfl) rfl (by repeat (first | exact np_post | refine np_then ?_ | refine np_in ?_)) (by first | (intro p hp; (repeat (first | exact hp | apply List.mem_cons_of_mem | apply List.mem_append_right)); done) | (repeat (first | exact in_nil | refine in_cons (by repeat (first | exact List.mem_cons_self | apply List.mem_cons_of_mem | apply List.mem_append_right)) ?_))) (by first | exact Le.refl _ | assumption | exact Le.trans ‹_› ‹_›) rfl (y_p rfl) ?_
        refine a_val (i := 1) (listed' := #[true, true, false, false, false, false, false, false, false]) rfl rfl rfl (by kernel_rfl) (by kernel_rfl) (by kernel_rfl) rfl (by kernel_rfl) rfl (by repeat (first | exact np_post | refine np_then ?_ | refine np_in ?_)) (by first | (intro p hp; (repeat (first | exact hp | apply List.mem_cons_of_mem | apply List.mem_append_right)); done) | (repeat (first | exact in_nil | refine in_cons (by repeat (first | exact List.mem_cons_self | apply List.mem_cons_of_mem | apply List.mem_append_right)) ?_))) (by first | exact Le.refl _ | assumption | exact Le.trans ‹_› ‹_›) rfl (y_p rfl) ?_
        refine a_val (i := 2) (listed' := #[true, true, true, false, false, false, false, false, false]) rfl rfl rfl (by kernel_rfl) (by kernel_rfl) (by kernel_rfl) rfl (by kernel_rfl) rfl (by repeat (first | exact np_post | refine np_then ?_ | refine np_in ?_)) (by first | (intro p hp; (repeat (first | exact hp | apply List.mem_cons_of_mem | apply List.mem_append_right)); done) | (repeat (first | exact in_nil | refine in_cons (by repeat (first | exact List.mem_cons_self | apply List.mem_cons_of_mem | apply List.mem_append_right)) ?_))) (by first | exact Le.refl _ | assumption | exact Le.trans ‹_› ‹_›) rfl (y_fa fo63_1 rfl) ?_
        refine a_val (i := 3) (listed' := #[true, true, true, true, false, false, false, false, false]) rfl rfl rfl (by kernel_rfl) (by kernel_rfl) (by kernel_rfl) rfl (by kernel_rfl) rfl (by repeat (first | exact np_post | refine np_then ?_ | refine np_in ?_)) (by first | (intro p hp; (repeat (first | exact hp | apply List.mem_cons_of_mem | apply List.mem_append_right)); done) | (repeat (first | exact in_nil | refine in_cons (by repeat (first | exact List.mem_cons_self | apply List.mem_cons_of_mem | apply List.mem_append_right)) ?_))) (by first | exact Le.refl _ | assumption | exact Le.trans ‹_› ‹_›) rfl (y_ld ty30 rfl rfl) ?_
        refine a_val (i := 4) (listed' := #[true, true, true, true, true, false, false, false, false]) rfl rfl rfl (by kernel_rfl) (by kernel_rfl) (by kernel_rfl) rfl (by kernel_rfl) rfl (by repeat (first | exact np_post | refine np_then ?_ | refine np_in ?_)) (by first | (intro p hp; (repeat (first | exact hp | apply List.mem_cons_of_mem | apply List.mem_append_right)); done) | (repeat (first | exact in_nil | refine in_cons (by repeat (first | exact List.mem_cons_self | apply List.mem_cons_of_mem | apply List.mem_append_right)) ?_))) (by first | exact Le.refl _ | assumption | exact Le.trans ‹_› ‹_›) rfl (y_p rfl) ?_
        refine a_val (i := 5) (listed' := #[true, true, true, true, true, true, false, false, false]) rfl rfl rfl (by kernel_rfl) (by kernel_rfl) (by kernel_rfl) rfl (by kernel_rfl) rfl (by repeat (first | exact np_post | refine np_then ?_ | refine np_in ?_)) (by first | (intro p hp; (repeat (first | exact hp | apply List.mem_cons_of_mem | apply List.mem_append_right)); done) | (repeat (first | exact in_nil | refine in_cons (by repeat (first | exact List.mem_cons_self | apply List.mem_cons_of_mem | apply List.mem_append_right)) ?_))) (by first | exact Le.refl _ | assumption | exact Le.trans ‹_› ‹_›) rfl (y_ld ty29 (v := .agg (encR ⟨setBody ys[j].r body, ys[j].fv, .slice av body.length cv⟩).toArray) rfl rfl) ?_
        refine a_one (i := 6) (listed' := #[true, true, true, true, true, true, true, false, false]) rfl rfl (by kernel_rfl) rfl rfl (.inr ⟨(by first | (intro p hp; (repeat (first | exact hp | apply List.mem_cons_of_mem | apply List.mem_append_right)); done) | (repeat (first | exact in_nil | refine in_cons (by repeat (first | exact List.mem_cons_self | apply List.mem_cons_of_mem | apply List.mem_append_right)) ?_))), (by first | exact Le.refl _ | assumption | exact Le.trans ‹_› ‹_›)⟩) (e_callK rfl rfl (c_ownR _ _ hx' hok') (List.Perm.refl _) rfl (fun r6 Γ6 hR6 => ?_))
        obtain ⟨fv6, bv6, Γf, Γb, rfl, hOf, hOb, rfl⟩ := hR6
        obtain ⟨pf, cf, rfl⟩ := hOf.val
        obtain ⟨pb, cb, rfl⟩ := hOb.val
        rw [List.append_assoc]
        refine PW.freezeOwn hOf (List.Perm.refl _) (fun F1 hF1 hS1 => ?_)
        refine PW.freezeOwn hOb (List.Perm.refl _) (fun F2 hF2 hS2 => ?_)
        have hF02 := hF1.trans hF2
        refine a_one (i := 7) (listed' := #[true, true, true, true, true, true, true, true, false]) rfl rfl (by kernel_rfl) rfl rfl (.inr ⟨(by first | (intro p hp; (repeat (first | exact hp | apply List.mem_cons_of_mem | apply List.mem_append_right)); done) | (repeat (first | exact in_nil | refine in_cons (by repeat (first | exact List.mem_cons_self | apply List.mem_cons_of_mem | apply List.mem_append_right)) ?_))), (by first | exact Le.refl _ | assumption | exact Le.trans ‹_› ‹_›)⟩) (e_val rfl (y_ia ty30 ty29 rfl rfl (by omega)) ?_)
        refine a_one (i := 8) (listed' := #[true, true, true, true, true, true, true, true, true]) rfl rfl (by kernel_rfl) rfl rfl (.inl (by kernel_rfl)) (e_st' ty29 rfl rfl rfl rfl rfl (upd_set encR_len ys junk hj (⟨setBody ys[j].r body, .slice pf ys[j].r.fs.length cf, .slice pb body.length cb⟩ : RV)) (fun q h1 h2 => hfz q (Nat.zero_le _) (by have := Nat.mul_le_mul_right 6 (show j + 1 ≤ ys.length from hj); rw [Int.toNat_natCast] at h2; omega)) ?_)
        refine a_done (by kernel_rfl) (by kernel_rfl) ?_
        refine q_then ?_
        refine w_seq ?_
        refine w_region ?_
        have hgj := hg (gens.getD j 0) (by rw [List.getD_eq_getElem?_getD, List.getElem?_eq_getElem (show j < gens.length by omega)]; exact List.getElem_mem _)
        refine o_run rfl (e_val rfl (y_p rfl) ?_)
        refine o_run rfl (e_val rfl (y_p rfl) ?_)
        refine o_run rfl (e_val rfl (y_fa fo63_2 rfl) ?_)
        refine o_run rfl (e_val rfl (y_ld ty61 rfl rfl) ?_)
        refine o_run rfl (e_val rfl (y_p rfl) ?_)
        refine o_run rfl (e_val rfl (y_ia ty61 ty3 rfl rfl (by omega)) ?_)
        refine o_run rfl (e_val rfl (y_ld ty3 rfl (ld_int gens (by omega))) ?_)
        refine o_run rfl (e_val rfl (y_addI rfl rfl (by omega)) ?_)
        refine o_run rfl (e_val rfl (y_ia ty61 ty3 rfl rfl (by omega)) ?_)
        refine o_run rfl (e_st ty3 rfl rfl rfl rfl rfl (upd_int gens (by omega) _) ?_)
        refine w_nil ?_
        refine q_then ?_
        refine w_seq ?_
        refine w_region ?_
        refine o_run rfl (e_val rfl (y_p rfl) ?_)
        refine w_nil ?_
        refine q_then ?_
        refine w_ret ?_
        refine PW.sub [_] _ (List.Perm.refl _) ?_
        refine r_one rfl rfl ?_
        -- leaf 4
        have hm : mayB (setBody ys[j].r body) = true := decide_eq_true h3
        rw [if_pos (by rw [hch, hm])]
        have hgd : (ys.map RV.r).getD j ⟨[], 0, [], [], 0, 0⟩ = ys[j].r := by simp [List.getD, hj]
        have hls : (ys.set j (⟨setBody ys[j].r body, .slice pf ys[j].r.fs.length cf, .slice pb body.length cb⟩ : RV)).length = ys.length := List.length_set
        refine ⟨rfl, bo, bg, _, _, ys.set j ⟨setBody ys[j].r body, .slice pf ys[j].r.fs.length cf, .slice pb body.length cb⟩, rfl, ?_, ?_, ?_, ?_, ?_, .inr ⟨b, cr, junk, fz, by rw [hls], rfl, ?_, by rw [hls]; exact hle, hfz⟩⟩
        · simp only [Int.toNat_natCast, List.length_set, List.length_map]
        · simp only [Int.toNat_natCast, List.length_set, List.length_map]; exact hgl
        · rw [List.map_set, Int.toNat_natCast, hgd]
        · intro y hy
          rcases List.mem_or_eq_of_mem_set hy with h | h
          · exact (hya y h).mono hF02
          · subst h; exact ⟨hS1.mono hF2, hS2⟩
        · rw [flatMap_len encR_len]
        · rw [flatMap_len encR_len, hls, ← hlen]; exact hcap

end Go.SL
