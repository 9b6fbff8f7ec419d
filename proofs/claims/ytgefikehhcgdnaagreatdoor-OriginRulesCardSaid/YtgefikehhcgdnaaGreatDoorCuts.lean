import Derived.Test.YtgefikehhcgdnaaGreatDoorAns0

/- The law OriginCuts: its walk. No condition. -/
namespace Go.SL
open Go.Proofs
set_option maxRecDepth 10000
theorem and_le (c : Int) : 0 ≤ ibits .and .i64 c 1023 ∧ ibits .and .i64 c 1023 ≤ 1023 := by
  unfold ibits
  simp only []
  generalize hb : (_ &&& _ : BitVec _) = x
  have hx : x.toNat ≤ 1023 := by
    subst hb
    rw [BitVec.toNat_and]
    exact Nat.le_trans Nat.and_le_right (by decide)
  rw [wrap_i64 (by omega)]
  omega
def okL : List UInt8 := statusLineL 1 200 (reasonL 200)
theorem status_ok : statusS 1 200 (reasonL 200) = (okL, 0) := by kernel_rfl
theorem okL_len : okL.length = 15 := by kernel_rfl
def hdrL (n : Nat) : List UInt8 := okL ++ crlf ++ (clenL ++ Lib.itoa n) ++ crlf ++ [] ++ crlf
theorem hdrL_len {n : Nat} (h : n ≤ 1000000) : 0 < (hdrL n).length ∧ (hdrL n).length ≤ 100 := by
  have hi := itoa_len (n := (n : Int)) (by omega)
  simp only [hdrL, List.length_append, crlf, clenL, List.length_cons, List.length_nil, okL_len]
  omega
theorem resp_ok {body : List UInt8} (h : body.length ≤ 1000) : respS 1 200 (reasonL 200) [] body getN = (hdrL body.length ++ body, 0) := by
  have hl := (hdrL_len (n := body.length) (by omega)).2
  have h1 : (statusS 1 200 (reasonL 200)).2 = 0 := by rw [status_ok]
  have h2 : ¬ bodyless getN 200 = true := by decide
  unfold respS
  rw [if_pos h1, if_neg h2, status_ok]
  have h3 : ownL [] = [] := rfl
  rw [h3, writeS_of (a := okL ++ crlf) rfl, wtail_t rfl]
  have h4 : okL ++ crlf ++ (clenL ++ Lib.itoa body.length) ++ crlf ++ [] ++ crlf = hdrL body.length := rfl
  rw [h4, if_neg (by simp only [List.length_nil]; omega)]
def cutR (pre body : List UInt8) (cut : Int) : Rl := ⟨pre, 200, [], body, 0, cut⟩
theorem may_cut {pre body : List UInt8} {cut : Int} (h : body.length ≤ 1000) : mayB (cutR pre body cut) = true := by
  unfold mayB
  refine decide_eq_true ⟨⟨show (200 : Int) ≤ 200 by decide, show (200 : Int) ≤ 599 by decide, show (0 : Int) ≤ 0 by decide, show (0 : Int) ≤ 1000 by decide, ?_⟩, ?_⟩
  · show body.length ≤ 1048576
    omega
  · show (respS 1 200 (reasonL 200) [] body getN).2 = 0
    rw [resp_ok h]
theorem cutR_ok {pre body : List UInt8} {cut : Int} (hp : pre.length ≤ 10) (h : body.length ≤ 1000) (hc : -1 ≤ cut ∧ cut ≤ 1023) : RlOk (cutR pre body cut) :=
  ⟨by show pre.length ≤ _; omega, by show I64 200; unfold I64; omega, FsW.nil, by show body.length ≤ _; omega, by show I64 0; unfold I64; omega, by show I64 cut; unfold I64; omega⟩
theorem bytes_cut {body : List UInt8} (h : body.length ≤ 1000) (cut : Int) : bytesS 200 (reasonL 200) [] body getN cut = if 0 ≤ cut ∧ cut < (hdrL body.length ++ body).length then (hdrL body.length ++ body).take cut.toNat else hdrL body.length ++ body := by
  unfold bytesS
  rw [resp_ok h, if_pos rfl]
theorem bytes_all {body : List UInt8} (h : body.length ≤ 1000) : bytesS 200 (reasonL 200) [] body getN (-1) = hdrL body.length ++ body := by
  rw [bytes_cut h, if_neg (by omega)]
theorem bytes_len {body : List UInt8} (h : body.length ≤ 1000) {cut : Int} (hc : 0 ≤ cut) : ((bytesS 200 (reasonL 200) [] body getN cut).length : Int) = min cut (hdrL body.length ++ body).length := by
  rw [bytes_cut h]
  split
  · rw [List.length_take]; omega
  · omega
theorem bytes_pre {body : List UInt8} (h : body.length ≤ 1000) {cut : Int} (hc : 0 ≤ cut) : bytesS 200 (reasonL 200) [] body getN cut = (hdrL body.length ++ body).take (bytesS 200 (reasonL 200) [] body getN cut).length := by
  rw [bytes_cut h]
  split
  · rw [List.length_take, Nat.min_eq_left (by omega)]
  · rw [List.take_length]
/-- What New yields, frozen. -/
theorem PW.frozenOrigin {X : Cx} {n : Nat} {ρ : Regs} {F : FH} {Γ Γo : Blks} {Φ : Act → World → Prop} {p : Value} {rs : List Rl} {gens : List Int} (h : IsOrigin F Γo p rs gens) (k : ∀ bo F', p = .pointer (some ⟨bo, 0, none⟩) → Le F F' → OrigAt F' bo rs gens → PW X n ρ F' Γ Φ) : PW X n ρ F (Γo ++ Γ) Φ := by
  obtain ⟨bo, bg, vr, Γr, ys, hp, rfl, hg, hr, ha, hO⟩ := h
  refine PW.freeze (fun h1 => ?_)
  refine PW.freeze (fun h2 => ?_)
  refine PW.freezeOwn hO (List.Perm.refl _) (fun F' h3 hS => ?_)
  exact k bo F' hp ((h1.trans h2).trans h3) ⟨bg, vr, ys, h3 _ _ (h2 _ _ (fset_self _ _ _)), h3 _ _ (fset_self _ _ _), hg, hr, fun y hy => (ha y hy).mono ((h1.trans h2).trans h3), hS⟩

theorem c_OriginCuts (F : FH) (hG : Glob F) (v : Value) (body : List UInt8) (cut : Int) (hb : SlAt F encB v body) : Fn Tryz.prog 3 [v, int cut] F [] (fun r _ _ => r = .bool true) := by
  obtain ⟨a0, cap0, rfl, -⟩ := hb.at
  have hcap := hb.cap
  have hand := and_le cut
  refine fn_walk Tryz.func3 (by kernel_rfl) rfl rfl rfl ?_
  intro w0
  simp only [numb, List.map_nil, List.map_cons, Nat.zero_add, Nat.reduceAdd, List.cons_append, List.nil_append]
  refine w_seq ?_
  refine w_region ?_
  refine o_run rfl (e_val rfl (y_p rfl) ?_)
  refine w_nil ?_
  refine q_then ?_
  refine w_seq ?_
  refine w_seq ?_
  refine w_region ?_
  refine o_run rfl (e_val rfl (y_p rfl) ?_)
  refine o_run rfl (e_val rfl (y_lenL ty22 rfl) ?_)
  refine o_run rfl (e_val rfl (y_p rfl) ?_)
  refine w_nil ?_
  refine q_then ?_
  first | refine w_condD rfl (fun h1 => ?_) (fun h1 => ?_) | refine w_condN rfl (fun h1 => ?_) (fun h1 => ?_) | refine w_cond rfl (fun h1 => ?_) (fun h1 => ?_)
  · refine w_region ?_
    refine o_run rfl (e_val rfl (y_p rfl) ?_)
    have hb5 := hb.sub (sz := 1) (fun _ => rfl) (i := 0) (j := 500) (Nat.zero_le _) (by omega)
    refine o_run rfl (e_val rfl (y_slc ty22 ty5 rfl rfl rfl (by omega)) ?_)
    refine o_run rfl (e_val rfl (y_p rfl) ?_)
    refine w_nil ?_
    refine q_then ?_
    refine w_seq ?_
    refine w_join (T := Option Addr × Nat × List UInt8 × Int) (fun x => ([(0, .slice x.1 x.2.2.1.length x.2.1), (1, int x.2.2.2)], F, [])) (fun x => SlAt F encB (.slice x.1 x.2.2.1.length x.2.1) x.2.2.1 ∧ x.2.2.1.length ≤ 500 ∧ 0 ≤ x.2.2.2 ∧ x.2.2.2 ≤ 1023) ?_ ?_
    · refine w_region ?_
      refine o_run rfl (e_val rfl (y_p rfl) ?_)
      refine o_run rfl (e_val rfl (y_p rfl) ?_)
      refine o_run rfl (e_val rfl (y_p rfl) ?_)
      refine w_nil ?_
      refine q_join (if cap0 = 0 then a0 else Option.map (fun x => x.add (0 * 1)) a0, cap0 - 0, body.take 500, _) ⟨by dsimp only; rw [List.length_take, Nat.min_eq_left (by omega)]; exact hb5, by dsimp only; rw [List.length_take]; omega, hand⟩ ⟨by dsimp only; rw [List.length_take, Nat.min_eq_left (by omega)]; rfl, rfl, trivial⟩ rfl rfl
    · rintro ⟨ax, qx, bx, cx⟩ ⟨hbx, hlx, hcx⟩
      dsimp only at hbx hlx hcx ⊢
      refine q_then ?_
      refine w_seq ?_
      refine w_region ?_
      refine o_run rfl (e_val rfl (y_p rfl) ?_)
      refine o_run rfl (e_val rfl (y_p rfl) ?_)
      refine o_run rfl (e_val rfl (y_build pl29 rfl rfl) ?_)
      refine o_run rfl (e_val rfl (y_p rfl) ?_)
      refine o_run rfl (e_val rfl (y_build pl29 rfl rfl) ?_)
      refine o_run rfl (e_bs ty30 ty29 (by omega) rfl rfl rfl rfl (fun b23 => ?_))
      refine PW.freeze (fun hF1 => ?_)
      have hb1 := hbx.mono hF1
      refine o_run rfl (e_call rfl rfl (c_New _ (hG.mono hF1) _ [⟨cutR [47] bx cx, nilV, .slice ax bx.length qx⟩, ⟨cutR [] bx (-1), nilV, .slice ax bx.length qx⟩] (.inr ⟨b23, 0, 2, rfl, Nat.le_refl 2, _, _, _, fset_self _ _ _, rfl⟩) (by
          intro x hx
          simp only [List.mem_cons, List.not_mem_nil, or_false] at hx
          rcases hx with rfl | rfl
          · exact ⟨⟨SlAt.nil, hb1⟩, cutR_ok (by decide) (by omega) (by omega)⟩
          · exact ⟨⟨SlAt.nil, hb1⟩, cutR_ok (by decide) (by omega) (by omega)⟩) (by simp)) (List.Perm.refl _) rfl (fun r6 F6 Γ6 hR6 hF6 => ?_))
      rw [if_pos (by
        have m1 := may_cut (pre := [47]) (cut := cx) (show bx.length ≤ 1000 by omega)
        have m2 := may_cut (pre := []) (cut := -1) (show bx.length ≤ 1000 by omega)
        simp only [newB, List.map_cons, List.map_nil, List.all_cons, List.all_nil, m1, m2]; rfl)] at hR6
      obtain ⟨p6, rfl, hI6⟩ := hR6
      refine PW.frozenOrigin hI6 (fun bo F7 hp7 hF7 hO7 => ?_)
      subst hp7
      have hF17 := hF1.trans (hF6.trans hF7)
      refine o_run rfl (e_val rfl (y_p rfl) ?_)
      refine o_run rfl (e_val rfl (y_p rfl) ?_)
      refine o_run rfl (e_val rfl (y_p rfl) ?_)
      refine o_run rfl (e_val rfl (y_p rfl) ?_)
      refine o_run rfl (e_val rfl (y_p rfl) ?_)
      refine w_nil ?_
      refine q_then ?_
      refine w_seq ?_
      refine w_seq ?_
      refine w_region ?_
      refine o_run rfl (e_val rfl (y_p rfl) ?_)
      refine o_run rfl (e_val rfl (y_p (v := .bool false) rfl) ?_)
      refine o_run rfl (e_val rfl (y_p rfl) ?_)
      refine o_yes rfl rfl rfl (e_val rfl (y_p rfl) ?_)
      refine o_yes rfl rfl rfl (e_val rfl (y_peq ty23 rfl) ?_)
      refine o_run rfl (e_val rfl (y_p rfl) ?_)
      refine w_nil ?_
      refine q_then ?_
      refine w_condF rfl ?_
      refine w_skip ?_
      refine q_then ?_
      refine w_seq ?_
      refine w_region ?_
      refine o_run rfl (e_val rfl (y_p rfl) ?_)
      refine o_run rfl (e_val rfl (y_build pl37 rfl rfl) ?_)
      refine o_run rfl (e_call rfl rfl (c_Answer0 _ bo _ _ getN [47] [47] [] 0 nilV true hO7 (fun G => c_PathS G [47] (by decide) (by decide) (by decide)) (by simp) (by intro r hr; simp only [List.map_cons, List.map_nil, List.mem_cons, List.not_mem_nil, or_false] at hr; rcases hr with rfl | rfl <;> exact ⟨cutR_ok (by decide) (by omega) (by omega), rfl⟩) SlAt.nil) (List.Perm.refl _) rfl (fun r7 F8 Γ8 hR7 hF8 => ?_))
      have hf0 : findI [47] true (List.map RV.r [⟨cutR [47] bx cx, nilV, .slice ax bx.length qx⟩, ⟨cutR [] bx (-1), nilV, .slice ax bx.length qx⟩]) = 0 := rfl
      rw [if_neg (by rw [hf0]; decide)] at hR7
      obtain ⟨j, hj, fv, bv, hfj, hr7, hSf, hSb⟩ := hR7
      rw [hf0] at hfj
      obtain rfl : j = 0 := by omega
      have hSb : SlAt F8 encB bv bx := hSb
      obtain ⟨af, cf, hfv, -⟩ := hSf.at
      subst hfv
      obtain ⟨ab, cb, hbv, -⟩ := hSb.at
      subst hbv
      have hmx : max (-1) cx = cx := by omega
      have hr7 : r7 = .agg (List.toArray (replyC 0 0 200 (reasonL 200) (.slice af 0 cf) (.slice ab bx.length cb) 0 (max (-1) cx))) := hr7
      rw [hmx] at hr7
      subst hr7
      have hG8 := hG.mono (hF17.trans hF8)
      have hrl := reasonL_len 200
      have hA := bytes_all (body := bx) (by omega)
      have hL := bytes_len (body := bx) (by omega) hcx.1
      have hP := bytes_pre (body := bx) (by omega) hcx.1
      have hH := hdrL_len (n := bx.length) (by omega)
      refine o_run rfl (e_alloc ty34 rfl rfl (fun b7 => ?_))
      refine o_run rfl (e_st ty34 rfl rfl rfl rfl rfl rfl ?_)
      refine w_nil ?_
      refine q_then ?_
      refine w_seq ?_
      refine w_region ?_
      refine o_run rfl (e_val rfl (y_ld ty34 rfl rfl) ?_)
      refine o_run rfl (e_call rfl rfl (c_Bytes _ hG8 0 0 200 (reasonL 200) bx getN _ _ 0 cx [] (by unfold I64; omega) (by omega) hSf FsW.nil hSb (by omega)) (List.Perm.refl _) rfl (fun r8 F9 Γ9 hR8 hF9 => ?_))
      obtain ⟨hS8, rfl⟩ := hR8
      obtain ⟨a8, c8, hv8, -⟩ := hS8.at
      subst hv8
      refine o_run rfl (e_val rfl (y_p rfl) ?_)
      refine w_nil ?_
      refine q_then ?_
      refine w_seq ?_
      refine w_region ?_
      refine o_run rfl (e_val rfl (y_fa fo34_5 rfl) ?_)
      refine o_run rfl (e_st ty3 rfl rfl rfl rfl rfl rfl ?_)
      refine w_nil ?_
      refine q_then ?_
      refine w_seq ?_
      refine w_region ?_
      refine o_run rfl (e_val rfl (y_ld ty34 rfl rfl) ?_)
      refine o_run rfl (e_call rfl rfl (c_Bytes _ (hG8.mono hF9) 0 0 200 (reasonL 200) bx getN _ _ 0 (-1) [] (by unfold I64; omega) (by omega) (hSf.mono hF9) FsW.nil (hSb.mono hF9) (by omega)) (List.Perm.refl _) rfl (fun r10 F10 Γ10 hR10 hF10 => ?_))
      obtain ⟨hS10, rfl⟩ := hR10
      obtain ⟨a10, c10, hv10, -⟩ := hS10.at
      subst hv10
      have hS9 := hS8.mono hF10
      rw [hA] at hS10 ⊢
      have hc10 := hS10.cap
      have hle : (bytesS 200 (reasonL 200) [] bx getN cx).length ≤ (hdrL bx.length ++ bx).length := by omega
      have hsub := hS10.sub (sz := 1) (fun _ => rfl) (i := 0) (j := (bytesS 200 (reasonL 200) [] bx getN cx).length) (Nat.zero_le _) hle
      rw [List.drop_zero, ← hP] at hsub
      have hsl : bx.length < (hdrL bx.length ++ bx).length := by rw [List.length_append]; omega
      refine o_run rfl (e_val rfl (y_p rfl) ?_)
      refine w_nil ?_
      refine q_then ?_
      refine w_seq ?_
      refine w_drawA [0, 1, 2, 3, 6, 7, 8, 9, 10, 11, 12, 13, 15, 16, 17, 18, 19, 20, 21, 22, 23] mixed ?_
      refine a_val (i := 0) (listed' := #[true, false, false, false, false, false, false, false, false, false, false, false, false, false, false, false, false, false, false, false, false, false, false, false, false]) rfl rfl rfl (by kernel_rfl) (by kernel_rfl) (by kernel_rfl) rfl (by kernel_rfl) rfl (by repeat (first | exact np_post | refine np_then ?_ | refine np_in ?_)) (by first | (intro p hp; (repeat (first | exact hp | apply List.mem_cons_of_mem | apply List.mem_append_right)); done) | (repeat (first | exact in_nil | refine in_cons (by repeat (first | exact List.mem_cons_self | apply List.mem_cons_of_mem | apply List.mem_append_right)) ?_))) (by first | exact Le.refl _ | assumption | exact Le.trans ‹_› ‹_›) rfl (y_p rfl) ?_
      refine a_val (i := 1) (listed' := #[true, true, false, false, false, false, false, false, false, false, false, false, false, false, false, false, false, false, false, false, false, false, false, false, false]) rfl rfl rfl (by kernel_rfl) (by kernel_rfl) (by kernel_rfl) rfl (by kernel_rfl) rfl (by repeat (first | exact np_post | refine np_then ?_ | refine np_in ?_)) (by first | (intro p hp; (repeat (first | exact hp | apply List.mem_cons_of_mem | apply List.mem_append_right)); done) | (repeat (first | exact in_nil | refine in_cons (by repeat (first | exact List.mem_cons_self | apply List.mem_cons_of_mem | apply List.mem_append_right)) ?_))) (by first | exact Le.refl _ | assumption | exact Le.trans ‹_› ‹_›) rfl (y_lenL ty22 rfl) ?_
      refine a_val (i := 2) (listed' := #[true, true, true, false, false, false, false, false, false, false, false, false, false, false, false, false, false, false, false, false, false, false, false, false, false]) rfl rfl rfl (by kernel_rfl) (by kernel_rfl) (by kernel_rfl) rfl (by kernel_rfl) rfl (by repeat (first | exact np_post | refine np_then ?_ | refine np_in ?_)) (by first | (intro p hp; (repeat (first | exact hp | apply List.mem_cons_of_mem | apply List.mem_append_right)); done) | (repeat (first | exact in_nil | refine in_cons (by repeat (first | exact List.mem_cons_self | apply List.mem_cons_of_mem | apply List.mem_append_right)) ?_))) (by first | exact Le.refl _ | assumption | exact Le.trans ‹_› ‹_›) rfl (y_p rfl) ?_
      refine a_val (i := 3) (listed' := #[true, true, true, true, false, false, false, false, false, false, false, false, false, false, false, false, false, false, false, false, false, false, false, false, false]) rfl rfl rfl (by kernel_rfl) (by kernel_rfl) (by kernel_rfl) rfl (by kernel_rfl) rfl (by repeat (first | exact np_post | refine np_then ?_ | refine np_in ?_)) (by first | (intro p hp; (repeat (first | exact hp | apply List.mem_cons_of_mem | apply List.mem_append_right)); done) | (repeat (first | exact in_nil | refine in_cons (by repeat (first | exact List.mem_cons_self | apply List.mem_cons_of_mem | apply List.mem_append_right)) ?_))) (by first | exact Le.refl _ | assumption | exact Le.trans ‹_› ‹_›) rfl (y_lenL ty22 rfl) ?_
      refine a_one (i := 4) (listed' := #[true, true, true, true, true, false, false, false, false, false, false, false, false, false, false, false, false, false, false, false, false, false, false, false, false]) rfl rfl (by kernel_rfl) rfl rfl (.inr ⟨(by first | (intro p hp; (repeat (first | exact hp | apply List.mem_cons_of_mem | apply List.mem_append_right)); done) | (repeat (first | exact in_nil | refine in_cons (by repeat (first | exact List.mem_cons_self | apply List.mem_cons_of_mem | apply List.mem_append_right)) ?_))), (by first | exact Le.refl _ | assumption | exact Le.trans ‹_› ‹_›)⟩) (e_val rfl (y_pe (.bool true) rfl (congrArg Value.bool (decide_eq_true (by omega)))) ?_)
      refine a_one (i := 5) (listed' := #[true, true, true, true, true, true, false, false, false, false, false, false, false, false, false, false, false, false, false, false, false, false, false, false, false]) rfl rfl (by kernel_rfl) rfl rfl (.inr ⟨(by first | (intro p hp; (repeat (first | exact hp | apply List.mem_cons_of_mem | apply List.mem_append_right)); done) | (repeat (first | exact in_nil | refine in_cons (by repeat (first | exact List.mem_cons_self | apply List.mem_cons_of_mem | apply List.mem_append_right)) ?_))), (by first | exact Le.refl _ | assumption | exact Le.trans ‹_› ‹_›)⟩) (e_val rfl (y_p rfl) ?_)
      refine a_valG (i := 6) (listed' := #[true, true, true, true, true, true, true, false, false, false, false, false, false, false, false, false, false, false, false, false, false, false, false, false, false]) rfl rfl rfl rfl rfl (by kernel_rfl) (by kernel_rfl) (by kernel_rfl) rfl (by kernel_rfl) rfl (by repeat (first | exact np_post | refine np_then ?_ | refine np_in ?_)) (by first | (intro p hp; (repeat (first | exact hp | apply List.mem_cons_of_mem | apply List.mem_append_right)); done) | (repeat (first | exact in_nil | refine in_cons (by repeat (first | exact List.mem_cons_self | apply List.mem_cons_of_mem | apply List.mem_append_right)) ?_))) (by first | exact Le.refl _ | assumption | exact Le.trans ‹_› ‹_›) rfl (y_p rfl) ?_
      refine a_valG (i := 7) (listed' := #[true, true, true, true, true, true, true, true, false, false, false, false, false, false, false, false, false, false, false, false, false, false, false, false, false]) rfl rfl rfl rfl rfl (by kernel_rfl) (by kernel_rfl) (by kernel_rfl) rfl (by kernel_rfl) rfl (by repeat (first | exact np_post | refine np_then ?_ | refine np_in ?_)) (by first | (intro p hp; (repeat (first | exact hp | apply List.mem_cons_of_mem | apply List.mem_append_right)); done) | (repeat (first | exact in_nil | refine in_cons (by repeat (first | exact List.mem_cons_self | apply List.mem_cons_of_mem | apply List.mem_append_right)) ?_))) (by first | exact Le.refl _ | assumption | exact Le.trans ‹_› ‹_›) rfl (y_lenL ty22 rfl) ?_
      refine a_valG (i := 8) (listed' := #[true, true, true, true, true, true, true, true, true, false, false, false, false, false, false, false, false, false, false, false, false, false, false, false, false]) rfl rfl rfl rfl rfl (by kernel_rfl) (by kernel_rfl) (by kernel_rfl) rfl (by kernel_rfl) rfl (by repeat (first | exact np_post | refine np_then ?_ | refine np_in ?_)) (by first | (intro p hp; (repeat (first | exact hp | apply List.mem_cons_of_mem | apply List.mem_append_right)); done) | (repeat (first | exact in_nil | refine in_cons (by repeat (first | exact List.mem_cons_self | apply List.mem_cons_of_mem | apply List.mem_append_right)) ?_))) (by first | exact Le.refl _ | assumption | exact Le.trans ‹_› ‹_›) rfl (y_p rfl) ?_
      refine a_valG (i := 9) (listed' := #[true, true, true, true, true, true, true, true, true, true, false, false, false, false, false, false, false, false, false, false, false, false, false, false, false]) rfl rfl rfl rfl rfl (by kernel_rfl) (by kernel_rfl) (by kernel_rfl) rfl (by kernel_rfl) rfl (by repeat (first | exact np_post | refine np_then ?_ | refine np_in ?_)) (by first | (intro p hp; (repeat (first | exact hp | apply List.mem_cons_of_mem | apply List.mem_append_right)); done) | (repeat (first | exact in_nil | refine in_cons (by repeat (first | exact List.mem_cons_self | apply List.mem_cons_of_mem | apply List.mem_append_right)) ?_))) (by first | exact Le.refl _ | assumption | exact Le.trans ‹_› ‹_›) rfl (y_p rfl) ?_
      refine a_valG (i := 10) (listed' := #[true, true, true, true, true, true, true, true, true, true, true, false, false, false, false, false, false, false, false, false, false, false, false, false, false]) rfl rfl rfl rfl rfl (by kernel_rfl) (by kernel_rfl) (by kernel_rfl) rfl (by kernel_rfl) rfl (by repeat (first | exact np_post | refine np_then ?_ | refine np_in ?_)) (by first | (intro p hp; (repeat (first | exact hp | apply List.mem_cons_of_mem | apply List.mem_append_right)); done) | (repeat (first | exact in_nil | refine in_cons (by repeat (first | exact List.mem_cons_self | apply List.mem_cons_of_mem | apply List.mem_append_right)) ?_))) (by first | exact Le.refl _ | assumption | exact Le.trans ‹_› ‹_›) rfl (y_lenL ty22 rfl) ?_
      refine a_valG (i := 11) (listed' := #[true, true, true, true, true, true, true, true, true, true, true, true, false, false, false, false, false, false, false, false, false, false, false, false, false]) rfl rfl rfl rfl rfl (by kernel_rfl) (by kernel_rfl) (by kernel_rfl) rfl (by kernel_rfl) rfl (by repeat (first | exact np_post | refine np_then ?_ | refine np_in ?_)) (by first | (intro p hp; (repeat (first | exact hp | apply List.mem_cons_of_mem | apply List.mem_append_right)); done) | (repeat (first | exact in_nil | refine in_cons (by repeat (first | exact List.mem_cons_self | apply List.mem_cons_of_mem | apply List.mem_append_right)) ?_))) (by first | exact Le.refl _ | assumption | exact Le.trans ‹_› ‹_›) rfl (y_min rfl rfl) ?_
      refine a_valG (i := 12) (listed' := #[true, true, true, true, true, true, true, true, true, true, true, true, true, false, false, false, false, false, false, false, false, false, false, false, false]) rfl rfl rfl rfl rfl (by kernel_rfl) (by kernel_rfl) (by kernel_rfl) rfl (by kernel_rfl) rfl (by repeat (first | exact np_post | refine np_then ?_ | refine np_in ?_)) (by first | (intro p hp; (repeat (first | exact hp | apply List.mem_cons_of_mem | apply List.mem_append_right)); done) | (repeat (first | exact in_nil | refine in_cons (by repeat (first | exact List.mem_cons_self | apply List.mem_cons_of_mem | apply List.mem_append_right)) ?_))) (by first | exact Le.refl _ | assumption | exact Le.trans ‹_› ‹_›) rfl (y_pe (.bool true) rfl (congrArg Value.bool (decide_eq_true (by rw [hL]; split <;> omega)))) ?_
      refine a_val (i := 13) (listed' := #[true, true, true, true, true, true, true, true, true, true, true, true, true, true, false, false, false, false, false, false, false, false, false, false, false]) rfl rfl rfl (by kernel_rfl) (by kernel_rfl) (by kernel_rfl) rfl (by kernel_rfl) rfl (by repeat (first | exact np_post | refine np_then ?_ | refine np_in ?_)) (by first | (intro p hp; (repeat (first | exact hp | apply List.mem_cons_of_mem | apply List.mem_append_right)); done) | (repeat (first | exact in_nil | refine in_cons (by repeat (first | exact List.mem_cons_self | apply List.mem_cons_of_mem | apply List.mem_append_right)) ?_))) (by first | exact Le.refl _ | assumption | exact Le.trans ‹_› ‹_›) rfl (y_p rfl) ?_
      refine a_one (i := 14) (listed' := #[true, true, true, true, true, true, true, true, true, true, true, true, true, true, true, false, false, false, false, false, false, false, false, false, false]) rfl rfl (by kernel_rfl) rfl rfl (.inr ⟨(by first | (intro p hp; (repeat (first | exact hp | apply List.mem_cons_of_mem | apply List.mem_append_right)); done) | (repeat (first | exact in_nil | refine in_cons (by repeat (first | exact List.mem_cons_self | apply List.mem_cons_of_mem | apply List.mem_append_right)) ?_))), (by first | exact Le.refl _ | assumption | exact Le.trans ‹_› ‹_›)⟩) (e_val rfl (y_p rfl) ?_)
      refine a_valG (i := 15) (listed' := #[true, true, true, true, true, true, true, true, true, true, true, true, true, true, true, true, false, false, false, false, false, false, false, false, false]) rfl rfl rfl rfl rfl (by kernel_rfl) (by kernel_rfl) (by kernel_rfl) rfl (by kernel_rfl) rfl (by repeat (first | exact np_post | refine np_then ?_ | refine np_in ?_)) (by first | (intro p hp; (repeat (first | exact hp | apply List.mem_cons_of_mem | apply List.mem_append_right)); done) | (repeat (first | exact in_nil | refine in_cons (by repeat (first | exact List.mem_cons_self | apply List.mem_cons_of_mem | apply List.mem_append_right)) ?_))) (by first | exact Le.refl _ | assumption | exact Le.trans ‹_› ‹_›) rfl (y_p rfl) ?_
      refine a_valG (i := 16) (listed' := #[true, true, true, true, true, true, true, true, true, true, true, true, true, true, true, true, true, false, false, false, false, false, false, false, false]) rfl rfl rfl rfl rfl (by kernel_rfl) (by kernel_rfl) (by kernel_rfl) rfl (by kernel_rfl) rfl (by repeat (first | exact np_post | refine np_then ?_ | refine np_in ?_)) (by first | (intro p hp; (repeat (first | exact hp | apply List.mem_cons_of_mem | apply List.mem_append_right)); done) | (repeat (first | exact in_nil | refine in_cons (by repeat (first | exact List.mem_cons_self | apply List.mem_cons_of_mem | apply List.mem_append_right)) ?_))) (by first | exact Le.refl _ | assumption | exact Le.trans ‹_› ‹_›) rfl (y_b2s ty22 ty9 ty5 rfl (Src.bytes hS9) ⟨_, _, _, rfl⟩) ?_
      refine a_valG (i := 17) (listed' := #[true, true, true, true, true, true, true, true, true, true, true, true, true, true, true, true, true, true, false, false, false, false, false, false, false]) rfl rfl rfl rfl rfl (by kernel_rfl) (by kernel_rfl) (by kernel_rfl) rfl (by kernel_rfl) rfl (by repeat (first | exact np_post | refine np_then ?_ | refine np_in ?_)) (by first | (intro p hp; (repeat (first | exact hp | apply List.mem_cons_of_mem | apply List.mem_append_right)); done) | (repeat (first | exact in_nil | refine in_cons (by repeat (first | exact List.mem_cons_self | apply List.mem_cons_of_mem | apply List.mem_append_right)) ?_))) (by first | exact Le.refl _ | assumption | exact Le.trans ‹_› ‹_›) rfl (y_p rfl) ?_
      refine a_valG (i := 18) (listed' := #[true, true, true, true, true, true, true, true, true, true, true, true, true, true, true, true, true, true, true, false, false, false, false, false, false]) rfl rfl rfl rfl rfl (by kernel_rfl) (by kernel_rfl) (by kernel_rfl) rfl (by kernel_rfl) rfl (by repeat (first | exact np_post | refine np_then ?_ | refine np_in ?_)) (by first | (intro p hp; (repeat (first | exact hp | apply List.mem_cons_of_mem | apply List.mem_append_right)); done) | (repeat (first | exact in_nil | refine in_cons (by repeat (first | exact List.mem_cons_self | apply List.mem_cons_of_mem | apply List.mem_append_right)) ?_))) (by first | exact Le.refl _ | assumption | exact Le.trans ‹_› ‹_›) rfl (y_p rfl) ?_
      refine a_valG (i := 19) (listed' := #[true, true, true, true, true, true, true, true, true, true, true, true, true, true, true, true, true, true, true, true, false, false, false, false, false]) rfl rfl rfl rfl rfl (by kernel_rfl) (by kernel_rfl) (by kernel_rfl) rfl (by kernel_rfl) rfl (by repeat (first | exact np_post | refine np_then ?_ | refine np_in ?_)) (by first | (intro p hp; (repeat (first | exact hp | apply List.mem_cons_of_mem | apply List.mem_append_right)); done) | (repeat (first | exact in_nil | refine in_cons (by repeat (first | exact List.mem_cons_self | apply List.mem_cons_of_mem | apply List.mem_append_right)) ?_))) (by first | exact Le.refl _ | assumption | exact Le.trans ‹_› ‹_›) rfl (y_lenL ty22 rfl) ?_
      refine a_valG (i := 20) (listed' := #[true, true, true, true, true, true, true, true, true, true, true, true, true, true, true, true, true, true, true, true, true, false, false, false, false]) rfl rfl rfl rfl rfl (by kernel_rfl) (by kernel_rfl) (by kernel_rfl) rfl (by kernel_rfl) rfl (by repeat (first | exact np_post | refine np_then ?_ | refine np_in ?_)) (by first | (intro p hp; (repeat (first | exact hp | apply List.mem_cons_of_mem | apply List.mem_append_right)); done) | (repeat (first | exact in_nil | refine in_cons (by repeat (first | exact List.mem_cons_self | apply List.mem_cons_of_mem | apply List.mem_append_right)) ?_))) (by first | exact Le.refl _ | assumption | exact Le.trans ‹_› ‹_›) rfl (y_slc ty22 ty5 rfl rfl rfl (by omega)) ?_
      refine a_valG (i := 21) (listed' := #[true, true, true, true, true, true, true, true, true, true, true, true, true, true, true, true, true, true, true, true, true, true, false, false, false]) rfl rfl rfl rfl rfl (by kernel_rfl) (by kernel_rfl) (by kernel_rfl) rfl (by kernel_rfl) rfl (by repeat (first | exact np_post | refine np_then ?_ | refine np_in ?_)) (by first | (intro p hp; (repeat (first | exact hp | apply List.mem_cons_of_mem | apply List.mem_append_right)); done) | (repeat (first | exact in_nil | refine in_cons (by repeat (first | exact List.mem_cons_self | apply List.mem_cons_of_mem | apply List.mem_append_right)) ?_))) (by first | exact Le.refl _ | assumption | exact Le.trans ‹_› ‹_›) rfl (y_b2s ty22 ty9 ty5 rfl (Src.bytes hsub) ⟨_, _, _, rfl⟩) ?_
      refine a_valG (i := 22) (listed' := #[true, true, true, true, true, true, true, true, true, true, true, true, true, true, true, true, true, true, true, true, true, true, true, false, false]) rfl rfl rfl rfl rfl (by kernel_rfl) (by kernel_rfl) (by kernel_rfl) rfl (by kernel_rfl) rfl (by repeat (first | exact np_post | refine np_then ?_ | refine np_in ?_)) (by first | (intro p hp; (repeat (first | exact hp | apply List.mem_cons_of_mem | apply List.mem_append_right)); done) | (repeat (first | exact in_nil | refine in_cons (by repeat (first | exact List.mem_cons_self | apply List.mem_cons_of_mem | apply List.mem_append_right)) ?_))) (by first | exact Le.refl _ | assumption | exact Le.trans ‹_› ‹_›) rfl (y_pe (.bool true) rfl (congrArg Value.bool (decide_eq_true rfl))) ?_
      refine a_val (i := 23) (listed' := #[true, true, true, true, true, true, true, true, true, true, true, true, true, true, true, true, true, true, true, true, true, true, true, true, false]) rfl rfl rfl (by kernel_rfl) (by kernel_rfl) (by kernel_rfl) rfl (by kernel_rfl) rfl (by repeat (first | exact np_post | refine np_then ?_ | refine np_in ?_)) (by first | (intro p hp; (repeat (first | exact hp | apply List.mem_cons_of_mem | apply List.mem_append_right)); done) | (repeat (first | exact in_nil | refine in_cons (by repeat (first | exact List.mem_cons_self | apply List.mem_cons_of_mem | apply List.mem_append_right)) ?_))) (by first | exact Le.refl _ | assumption | exact Le.trans ‹_› ‹_›) rfl (y_p rfl) ?_
      refine a_one (i := 24) (listed' := #[true, true, true, true, true, true, true, true, true, true, true, true, true, true, true, true, true, true, true, true, true, true, true, true, true]) rfl rfl (by kernel_rfl) rfl rfl (.inr ⟨(by first | (intro p hp; (repeat (first | exact hp | apply List.mem_cons_of_mem | apply List.mem_append_right)); done) | (repeat (first | exact in_nil | refine in_cons (by repeat (first | exact List.mem_cons_self | apply List.mem_cons_of_mem | apply List.mem_append_right)) ?_))), (by first | exact Le.refl _ | assumption | exact Le.trans ‹_› ‹_›)⟩) (e_val rfl (y_p rfl) ?_)
      refine a_done (by kernel_rfl) (by kernel_rfl) ?_
      refine q_then ?_
      refine w_ret ?_
      refine r_one rfl rfl ?_
      -- leaf 1
      rfl
  · refine w_skip ?_
    refine q_then ?_
    refine w_seq ?_
    refine w_join (T := Option Addr × Nat × List UInt8 × Int) (fun x => ([(0, .slice x.1 x.2.2.1.length x.2.1), (1, int x.2.2.2)], F, [])) (fun x => SlAt F encB (.slice x.1 x.2.2.1.length x.2.1) x.2.2.1 ∧ x.2.2.1.length ≤ 500 ∧ 0 ≤ x.2.2.2 ∧ x.2.2.2 ≤ 1023) ?_ ?_
    · refine w_region ?_
      refine o_run rfl (e_val rfl (y_p rfl) ?_)
      refine o_run rfl (e_val rfl (y_p rfl) ?_)
      refine o_run rfl (e_val rfl (y_p rfl) ?_)
      refine w_nil ?_
      refine q_join (a0, cap0, body, _) ⟨hb, by dsimp only; omega, hand⟩ ⟨rfl, rfl, trivial⟩ rfl rfl
    · rintro ⟨ax, qx, bx, cx⟩ ⟨hbx, hlx, hcx⟩
      dsimp only at hbx hlx hcx ⊢
      refine q_then ?_
      refine w_seq ?_
      refine w_region ?_
      refine o_run rfl (e_val rfl (y_p rfl) ?_)
      refine o_run rfl (e_val rfl (y_p rfl) ?_)
      refine o_run rfl (e_val rfl (y_build pl29 rfl rfl) ?_)
      refine o_run rfl (e_val rfl (y_p rfl) ?_)
      refine o_run rfl (e_val rfl (y_build pl29 rfl rfl) ?_)
      refine o_run rfl (e_bs ty30 ty29 (by omega) rfl rfl rfl rfl (fun b23 => ?_))
      refine PW.freeze (fun hF1 => ?_)
      have hb1 := hbx.mono hF1
      refine o_run rfl (e_call rfl rfl (c_New _ (hG.mono hF1) _ [⟨cutR [47] bx cx, nilV, .slice ax bx.length qx⟩, ⟨cutR [] bx (-1), nilV, .slice ax bx.length qx⟩] (.inr ⟨b23, 0, 2, rfl, Nat.le_refl 2, _, _, _, fset_self _ _ _, rfl⟩) (by
          intro x hx
          simp only [List.mem_cons, List.not_mem_nil, or_false] at hx
          rcases hx with rfl | rfl
          · exact ⟨⟨SlAt.nil, hb1⟩, cutR_ok (by decide) (by omega) (by omega)⟩
          · exact ⟨⟨SlAt.nil, hb1⟩, cutR_ok (by decide) (by omega) (by omega)⟩) (by simp)) (List.Perm.refl _) rfl (fun r6 F6 Γ6 hR6 hF6 => ?_))
      rw [if_pos (by
        have m1 := may_cut (pre := [47]) (cut := cx) (show bx.length ≤ 1000 by omega)
        have m2 := may_cut (pre := []) (cut := -1) (show bx.length ≤ 1000 by omega)
        simp only [newB, List.map_cons, List.map_nil, List.all_cons, List.all_nil, m1, m2]; rfl)] at hR6
      obtain ⟨p6, rfl, hI6⟩ := hR6
      refine PW.frozenOrigin hI6 (fun bo F7 hp7 hF7 hO7 => ?_)
      subst hp7
      have hF17 := hF1.trans (hF6.trans hF7)
      refine o_run rfl (e_val rfl (y_p rfl) ?_)
      refine o_run rfl (e_val rfl (y_p rfl) ?_)
      refine o_run rfl (e_val rfl (y_p rfl) ?_)
      refine o_run rfl (e_val rfl (y_p rfl) ?_)
      refine o_run rfl (e_val rfl (y_p rfl) ?_)
      refine w_nil ?_
      refine q_then ?_
      refine w_seq ?_
      refine w_seq ?_
      refine w_region ?_
      refine o_run rfl (e_val rfl (y_p rfl) ?_)
      refine o_run rfl (e_val rfl (y_p (v := .bool false) rfl) ?_)
      refine o_run rfl (e_val rfl (y_p rfl) ?_)
      refine o_yes rfl rfl rfl (e_val rfl (y_p rfl) ?_)
      refine o_yes rfl rfl rfl (e_val rfl (y_peq ty23 rfl) ?_)
      refine o_run rfl (e_val rfl (y_p rfl) ?_)
      refine w_nil ?_
      refine q_then ?_
      refine w_condF rfl ?_
      refine w_skip ?_
      refine q_then ?_
      refine w_seq ?_
      refine w_region ?_
      refine o_run rfl (e_val rfl (y_p rfl) ?_)
      refine o_run rfl (e_val rfl (y_build pl37 rfl rfl) ?_)
      refine o_run rfl (e_call rfl rfl (c_Answer0 _ bo _ _ getN [47] [47] [] 0 nilV true hO7 (fun G => c_PathS G [47] (by decide) (by decide) (by decide)) (by simp) (by intro r hr; simp only [List.map_cons, List.map_nil, List.mem_cons, List.not_mem_nil, or_false] at hr; rcases hr with rfl | rfl <;> exact ⟨cutR_ok (by decide) (by omega) (by omega), rfl⟩) SlAt.nil) (List.Perm.refl _) rfl (fun r7 F8 Γ8 hR7 hF8 => ?_))
      have hf0 : findI [47] true (List.map RV.r [⟨cutR [47] bx cx, nilV, .slice ax bx.length qx⟩, ⟨cutR [] bx (-1), nilV, .slice ax bx.length qx⟩]) = 0 := rfl
      rw [if_neg (by rw [hf0]; decide)] at hR7
      obtain ⟨j, hj, fv, bv, hfj, hr7, hSf, hSb⟩ := hR7
      rw [hf0] at hfj
      obtain rfl : j = 0 := by omega
      have hSb : SlAt F8 encB bv bx := hSb
      obtain ⟨af, cf, hfv, -⟩ := hSf.at
      subst hfv
      obtain ⟨ab, cb, hbv, -⟩ := hSb.at
      subst hbv
      have hmx : max (-1) cx = cx := by omega
      have hr7 : r7 = .agg (List.toArray (replyC 0 0 200 (reasonL 200) (.slice af 0 cf) (.slice ab bx.length cb) 0 (max (-1) cx))) := hr7
      rw [hmx] at hr7
      subst hr7
      have hG8 := hG.mono (hF17.trans hF8)
      have hrl := reasonL_len 200
      have hA := bytes_all (body := bx) (by omega)
      have hL := bytes_len (body := bx) (by omega) hcx.1
      have hP := bytes_pre (body := bx) (by omega) hcx.1
      have hH := hdrL_len (n := bx.length) (by omega)
      refine o_run rfl (e_alloc ty34 rfl rfl (fun b7 => ?_))
      refine o_run rfl (e_st ty34 rfl rfl rfl rfl rfl rfl ?_)
      refine w_nil ?_
      refine q_then ?_
      refine w_seq ?_
      refine w_region ?_
      refine o_run rfl (e_val rfl (y_ld ty34 rfl rfl) ?_)
      refine o_run rfl (e_call rfl rfl (c_Bytes _ hG8 0 0 200 (reasonL 200) bx getN _ _ 0 cx [] (by unfold I64; omega) (by omega) hSf FsW.nil hSb (by omega)) (List.Perm.refl _) rfl (fun r8 F9 Γ9 hR8 hF9 => ?_))
      obtain ⟨hS8, rfl⟩ := hR8
      obtain ⟨a8, c8, hv8, -⟩ := hS8.at
      subst hv8
      refine o_run rfl (e_val rfl (y_p rfl) ?_)
      refine w_nil ?_
      refine q_then ?_
      refine w_seq ?_
      refine w_region ?_
      refine o_run rfl (e_val rfl (y_fa fo34_5 rfl) ?_)
      refine o_run rfl (e_st ty3 rfl rfl rfl rfl rfl rfl ?_)
      refine w_nil ?_
      refine q_then ?_
      refine w_seq ?_
      refine w_region ?_
      refine o_run rfl (e_val rfl (y_ld ty34 rfl rfl) ?_)
      refine o_run rfl (e_call rfl rfl (c_Bytes _ (hG8.mono hF9) 0 0 200 (reasonL 200) bx getN _ _ 0 (-1) [] (by unfold I64; omega) (by omega) (hSf.mono hF9) FsW.nil (hSb.mono hF9) (by omega)) (List.Perm.refl _) rfl (fun r10 F10 Γ10 hR10 hF10 => ?_))
      obtain ⟨hS10, rfl⟩ := hR10
      obtain ⟨a10, c10, hv10, -⟩ := hS10.at
      subst hv10
      have hS9 := hS8.mono hF10
      rw [hA] at hS10 ⊢
      have hc10 := hS10.cap
      have hle : (bytesS 200 (reasonL 200) [] bx getN cx).length ≤ (hdrL bx.length ++ bx).length := by omega
      have hsub := hS10.sub (sz := 1) (fun _ => rfl) (i := 0) (j := (bytesS 200 (reasonL 200) [] bx getN cx).length) (Nat.zero_le _) hle
      rw [List.drop_zero, ← hP] at hsub
      have hsl : bx.length < (hdrL bx.length ++ bx).length := by rw [List.length_append]; omega
      refine o_run rfl (e_val rfl (y_p rfl) ?_)
      refine w_nil ?_
      refine q_then ?_
      refine w_seq ?_
      refine w_drawA [0, 1, 2, 3, 6, 7, 8, 9, 10, 11, 12, 13, 15, 16, 17, 18, 19, 20, 21, 22, 23] mixed ?_
      refine a_val (i := 0) (listed' := #[true, false, false, false, false, false, false, false, false, false, false, false, false, false, false, false, false, false, false, false, false, false, false, false, false]) rfl rfl rfl (by kernel_rfl) (by kernel_rfl) (by kernel_rfl) rfl (by kernel_rfl) rfl (by repeat (first | exact np_post | refine np_then ?_ | refine np_in ?_)) (by first | (intro p hp; (repeat (first | exact hp | apply List.mem_cons_of_mem | apply List.mem_append_right)); done) | (repeat (first | exact in_nil | refine in_cons (by repeat (first | exact List.mem_cons_self | apply List.mem_cons_of_mem | apply List.mem_append_right)) ?_))) (by first | exact Le.refl _ | assumption | exact Le.trans ‹_› ‹_›) rfl (y_p rfl) ?_
      refine a_val (i := 1) (listed' := #[true, true, false, false, false, false, false, false, false, false, false, false, false, false, false, false, false, false, false, false, false, false, false, false, false]) rfl rfl rfl (by kernel_rfl) (by kernel_rfl) (by kernel_rfl) rfl (by kernel_rfl) rfl (by repeat (first | exact np_post | refine np_then ?_ | refine np_in ?_)) (by first | (intro p hp; (repeat (first | exact hp | apply List.mem_cons_of_mem | apply List.mem_append_right)); done) | (repeat (first | exact in_nil | refine in_cons (by repeat (first | exact List.mem_cons_self | apply List.mem_cons_of_mem | apply List.mem_append_right)) ?_))) (by first | exact Le.refl _ | assumption | exact Le.trans ‹_› ‹_›) rfl (y_lenL ty22 rfl) ?_
      refine a_val (i := 2) (listed' := #[true, true, true, false, false, false, false, false, false, false, false, false, false, false, false, false, false, false, false, false, false, false, false, false, false]) rfl rfl rfl (by kernel_rfl) (by kernel_rfl) (by kernel_rfl) rfl (by kernel_rfl) rfl (by repeat (first | exact np_post | refine np_then ?_ | refine np_in ?_)) (by first | (intro p hp; (repeat (first | exact hp | apply List.mem_cons_of_mem | apply List.mem_append_right)); done) | (repeat (first | exact in_nil | refine in_cons (by repeat (first | exact List.mem_cons_self | apply List.mem_cons_of_mem | apply List.mem_append_right)) ?_))) (by first | exact Le.refl _ | assumption | exact Le.trans ‹_› ‹_›) rfl (y_p rfl) ?_
      refine a_val (i := 3) (listed' := #[true, true, true, true, false, false, false, false, false, false, false, false, false, false, false, false, false, false, false, false, false, false, false, false, false]) rfl rfl rfl (by kernel_rfl) (by kernel_rfl) (by kernel_rfl) rfl (by kernel_rfl) rfl (by repeat (first | exact np_post | refine np_then ?_ | refine np_in ?_)) (by first | (intro p hp; (repeat (first | exact hp | apply List.mem_cons_of_mem | apply List.mem_append_right)); done) | (repeat (first | exact in_nil | refine in_cons (by repeat (first | exact List.mem_cons_self | apply List.mem_cons_of_mem | apply List.mem_append_right)) ?_))) (by first | exact Le.refl _ | assumption | exact Le.trans ‹_› ‹_›) rfl (y_lenL ty22 rfl) ?_
      refine a_one (i := 4) (listed' := #[true, true, true, true, true, false, false, false, false, false, false, false, false, false, false, false, false, false, false, false, false, false, false, false, false]) rfl rfl (by kernel_rfl) rfl rfl (.inr ⟨(by first | (intro p hp; (repeat (first | exact hp | apply List.mem_cons_of_mem | apply List.mem_append_right)); done) | (repeat (first | exact in_nil | refine in_cons (by repeat (first | exact List.mem_cons_self | apply List.mem_cons_of_mem | apply List.mem_append_right)) ?_))), (by first | exact Le.refl _ | assumption | exact Le.trans ‹_› ‹_›)⟩) (e_val rfl (y_pe (.bool true) rfl (congrArg Value.bool (decide_eq_true (by omega)))) ?_)
      refine a_one (i := 5) (listed' := #[true, true, true, true, true, true, false, false, false, false, false, false, false, false, false, false, false, false, false, false, false, false, false, false, false]) rfl rfl (by kernel_rfl) rfl rfl (.inr ⟨(by first | (intro p hp; (repeat (first | exact hp | apply List.mem_cons_of_mem | apply List.mem_append_right)); done) | (repeat (first | exact in_nil | refine in_cons (by repeat (first | exact List.mem_cons_self | apply List.mem_cons_of_mem | apply List.mem_append_right)) ?_))), (by first | exact Le.refl _ | assumption | exact Le.trans ‹_› ‹_›)⟩) (e_val rfl (y_p rfl) ?_)
      refine a_valG (i := 6) (listed' := #[true, true, true, true, true, true, true, false, false, false, false, false, false, false, false, false, false, false, false, false, false, false, false, false, false]) rfl rfl rfl rfl rfl (by kernel_rfl) (by kernel_rfl) (by kernel_rfl) rfl (by kernel_rfl) rfl (by repeat (first | exact np_post | refine np_then ?_ | refine np_in ?_)) (by first | (intro p hp; (repeat (first | exact hp | apply List.mem_cons_of_mem | apply List.mem_append_right)); done) | (repeat (first | exact in_nil | refine in_cons (by repeat (first | exact List.mem_cons_self | apply List.mem_cons_of_mem | apply List.mem_append_right)) ?_))) (by first | exact Le.refl _ | assumption | exact Le.trans ‹_› ‹_›) rfl (y_p rfl) ?_
      refine a_valG (i := 7) (listed' := #[true, true, true, true, true, true, true, true, false, false, false, false, false, false, false, false, false, false, false, false, false, false, false, false, false]) rfl rfl rfl rfl rfl (by kernel_rfl) (by kernel_rfl) (by kernel_rfl) rfl (by kernel_rfl) rfl (by repeat (first | exact np_post | refine np_then ?_ | refine np_in ?_)) (by first | (intro p hp; (repeat (first | exact hp | apply List.mem_cons_of_mem | apply List.mem_append_right)); done) | (repeat (first | exact in_nil | refine in_cons (by repeat (first | exact List.mem_cons_self | apply List.mem_cons_of_mem | apply List.mem_append_right)) ?_))) (by first | exact Le.refl _ | assumption | exact Le.trans ‹_› ‹_›) rfl (y_lenL ty22 rfl) ?_
      refine a_valG (i := 8) (listed' := #[true, true, true, true, true, true, true, true, true, false, false, false, false, false, false, false, false, false, false, false, false, false, false, false, false]) rfl rfl rfl rfl rfl (by kernel_rfl) (by kernel_rfl) (by kernel_rfl) rfl (by kernel_rfl) rfl (by repeat (first | exact np_post | refine np_then ?_ | refine np_in ?_)) (by first | (intro p hp; (repeat (first | exact hp | apply List.mem_cons_of_mem | apply List.mem_append_right)); done) | (repeat (first | exact in_nil | refine in_cons (by repeat (first | exact List.mem_cons_self | apply List.mem_cons_of_mem | apply List.mem_append_right)) ?_))) (by first | exact Le.refl _ | assumption | exact Le.trans ‹_› ‹_›) rfl (y_p rfl) ?_
      refine a_valG (i := 9) (listed' := #[true, true, true, true, true, true, true, true, true, true, false, false, false, false, false, false, false, false, false, false, false, false, false, false, false]) rfl rfl rfl rfl rfl (by kernel_rfl) (by kernel_rfl) (by kernel_rfl) rfl (by kernel_rfl) rfl (by repeat (first | exact np_post | refine np_then ?_ | refine np_in ?_)) (by first | (intro p hp; (repeat (first | exact hp | apply List.mem_cons_of_mem | apply List.mem_append_right)); done) | (repeat (first | exact in_nil | refine in_cons (by repeat (first | exact List.mem_cons_self | apply List.mem_cons_of_mem | apply List.mem_append_right)) ?_))) (by first | exact Le.refl _ | assumption | exact Le.trans ‹_› ‹_›) rfl (y_p rfl) ?_
      refine a_valG (i := 10) (listed' := #[true, true, true, true, true, true, true, true, true, true, true, false, false, false, false, false, false, false, false, false, false, false, false, false, false]) rfl rfl rfl rfl rfl (by kernel_rfl) (by kernel_rfl) (by kernel_rfl) rfl (by kernel_rfl) rfl (by repeat (first | exact np_post | refine np_then ?_ | refine np_in ?_)) (by first | (intro p hp; (repeat (first | exact hp | apply List.mem_cons_of_mem | apply List.mem_append_right)); done) | (repeat (first | exact in_nil | refine in_cons (by repeat (first | exact List.mem_cons_self | apply List.mem_cons_of_mem | apply List.mem_append_right)) ?_))) (by first | exact Le.refl _ | assumption | exact Le.trans ‹_› ‹_›) rfl (y_lenL ty22 rfl) ?_
      refine a_valG (i := 11) (listed' := #[true, true, true, true, true, true, true, true, true, true, true, true, false, false, false, false, false, false, false, false, false, false, false, false, false]) rfl rfl rfl rfl rfl (by kernel_rfl) (by kernel_rfl) (by kernel_rfl) rfl (by kernel_rfl) rfl (by repeat (first | exact np_post | refine np_then ?_ | refine np_in ?_)) (by first | (intro p hp; (repeat (first | exact hp | apply List.mem_cons_of_mem | apply List.mem_append_right)); done) | (repeat (first | exact in_nil | refine in_cons (by repeat (first | exact List.mem_cons_self | apply List.mem_cons_of_mem | apply List.mem_append_right)) ?_))) (by first | exact Le.refl _ | assumption | exact Le.trans ‹_› ‹_›) rfl (y_min rfl rfl) ?_
      refine a_valG (i := 12) (listed' := #[true, true, true, true, true, true, true, true, true, true, true, true, true, false, false, false, false, false, false, false, false, false, false, false, false]) rfl rfl rfl rfl rfl (by kernel_rfl) (by kernel_rfl) (by kernel_rfl) rfl (by kernel_rfl) rfl (by repeat (first | exact np_post | refine np_then ?_ | refine np_in ?_)) (by first | (intro p hp; (repeat (first | exact hp | apply List.mem_cons_of_mem | apply List.mem_append_right)); done) | (repeat (first | exact in_nil | refine in_cons (by repeat (first | exact List.mem_cons_self | apply List.mem_cons_of_mem | apply List.mem_append_right)) ?_))) (by first | exact Le.refl _ | assumption | exact Le.trans ‹_› ‹_›) rfl (y_pe (.bool true) rfl (congrArg Value.bool (decide_eq_true (by rw [hL]; split <;> omega)))) ?_
      refine a_val (i := 13) (listed' := #[true, true, true, true, true, true, true, true, true, true, true, true, true, true, false, false, false, false, false, false, false, false, false, false, false]) rfl rfl rfl (by kernel_rfl) (by kernel_rfl) (by kernel_rfl) rfl (by kernel_rfl) rfl (by repeat (first | exact np_post | refine np_then ?_ | refine np_in ?_)) (by first | (intro p hp; (repeat (first | exact hp | apply List.mem_cons_of_mem | apply List.mem_append_right)); done) | (repeat (first | exact in_nil | refine in_cons (by repeat (first | exact List.mem_cons_self | apply List.mem_cons_of_mem | apply List.mem_append_right)) ?_))) (by first | exact Le.refl _ | assumption | exact Le.trans ‹_› ‹_›) rfl (y_p rfl) ?_
      refine a_one (i := 14) (listed' := #[true, true, true, true, true, true, true, true, true, true, true, true, true, true, true, false, false, false, false, false, false, false, false, false, false]) rfl rfl (by kernel_rfl) rfl rfl (.inr ⟨(by first | (intro p hp; (repeat (first | exact hp | apply List.mem_cons_of_mem | apply List.mem_append_right)); done) | (repeat (first | exact in_nil | refine in_cons (by repeat (first | exact List.mem_cons_self | apply List.mem_cons_of_mem | apply List.mem_append_right)) ?_))), (by first | exact Le.refl _ | assumption | exact Le.trans ‹_› ‹_›)⟩) (e_val rfl (y_p rfl) ?_)
      refine a_valG (i := 15) (listed' := #[true, true, true, true, true, true, true, true, true, true, true, true, true, true, true, true, false, false, false, false, false, false, false, false, false]) rfl rfl rfl rfl rfl (by kernel_rfl) (by kernel_rfl) (by kernel_rfl) rfl (by kernel_rfl) rfl (by repeat (first | exact np_post | refine np_then ?_ | refine np_in ?_)) (by first | (intro p hp; (repeat (first | exact hp | apply List.mem_cons_of_mem | apply List.mem_append_right)); done) | (repeat (first | exact in_nil | refine in_cons (by repeat (first | exact List.mem_cons_self | apply List.mem_cons_of_mem | apply List.mem_append_right)) ?_))) (by first | exact Le.refl _ | assumption | exact Le.trans ‹_› ‹_›) rfl (y_p rfl) ?_
      refine a_valG (i := 16) (listed' := #[true, true, true, true, true, true, true, true, true, true, true, true, true, true, true, true, true, false, false, false, false, false, false, false, false]) rfl rfl rfl rfl rfl (by kernel_rfl) (by kernel_rfl) (by kernel_rfl) rfl (by kernel_rfl) rfl (by repeat (first | exact np_post | refine np_then ?_ | refine np_in ?_)) (by first | (intro p hp; (repeat (first | exact hp | apply List.mem_cons_of_mem | apply List.mem_append_right)); done) | (repeat (first | exact in_nil | refine in_cons (by repeat (first | exact List.mem_cons_self | apply List.mem_cons_of_mem | apply List.mem_append_right)) ?_))) (by first | exact Le.refl _ | assumption | exact Le.trans ‹_› ‹_›) rfl (y_b2s ty22 ty9 ty5 rfl (Src.bytes hS9) ⟨_, _, _, rfl⟩) ?_
      refine a_valG (i := 17) (listed' := #[true, true, true, true, true, true, true, true, true, true, true, true, true, true, true, true, true, true, false, false, false, false, false, false, false]) rfl rfl rfl rfl rfl (by kernel_rfl) (by kernel_rfl) (by kernel_rfl) rfl (by kernel_rfl) rfl (by repeat (first | exact np_post | refine np_then ?_ | refine np_in ?_)) (by first | (intro p hp; (repeat (first | exact hp | apply List.mem_cons_of_mem | apply List.mem_append_right)); done) | (repeat (first | exact in_nil | refine in_cons (by repeat (first | exact List.mem_cons_self | apply List.mem_cons_of_mem | apply List.mem_append_right)) ?_))) (by first | exact Le.refl _ | assumption | exact Le.trans ‹_› ‹_›) rfl (y_p rfl) ?_
      refine a_valG (i := 18) (listed' := #[true, true, true, true, true, true, true, true, true, true, true, true, true, true, true, true, true, true, true, false, false, false, false, false, false]) rfl rfl rfl rfl rfl (by kernel_rfl) (by kernel_rfl) (by kernel_rfl) rfl (by kernel_rfl) rfl (by repeat (first | exact np_post | refine np_then ?_ | refine np_in ?_)) (by first | (intro p hp; (repeat (first | exact hp | apply List.mem_cons_of_mem | apply List.mem_append_right)); done) | (repeat (first | exact in_nil | refine in_cons (by repeat (first | exact List.mem_cons_self | apply List.mem_cons_of_mem | apply List.mem_append_right)) ?_))) (by first | exact Le.refl _ | assumption | exact Le.trans ‹_› ‹_›) rfl (y_p rfl) ?_
      refine a_valG (i := 19) (listed' := #[true, true, true, true, true, true, true, true, true, true, true, true, true, true, true, true, true, true, true, true, false, false, false, false, false]) rfl rfl rfl rfl rfl (by kernel_rfl) (by kernel_rfl) (by kernel_rfl) rfl (by kernel_rfl) rfl (by repeat (first | exact np_post | refine np_then ?_ | refine np_in ?_)) (by first | (intro p hp; (repeat (first | exact hp | apply List.mem_cons_of_mem | apply List.mem_append_right)); done) | (repeat (first | exact in_nil | refine in_cons (by repeat (first | exact List.mem_cons_self | apply List.mem_cons_of_mem | apply List.mem_append_right)) ?_))) (by first | exact Le.refl _ | assumption | exact Le.trans ‹_› ‹_›) rfl (y_lenL ty22 rfl) ?_
      refine a_valG (i := 20) (listed' := #[true, true, true, true, true, true, true, true, true, true, true, true, true, true, true, true, true, true, true, true, true, false, false, false, false]) rfl rfl rfl rfl rfl (by kernel_rfl) (by kernel_rfl) (by kernel_rfl) rfl (by kernel_rfl) rfl (by repeat (first | exact np_post | refine np_then ?_ | refine np_in ?_)) (by first | (intro p hp; (repeat (first | exact hp | apply List.mem_cons_of_mem | apply List.mem_append_right)); done) | (repeat (first | exact in_nil | refine in_cons (by repeat (first | exact List.mem_cons_self | apply List.mem_cons_of_mem | apply List.mem_append_right)) ?_))) (by first | exact Le.refl _ | assumption | exact Le.trans ‹_› ‹_›) rfl (y_slc ty22 ty5 rfl rfl rfl (by omega)) ?_
      refine a_valG (i := 21) (listed' := #[true, true, true, true, true, true, true, true, true, true, true, true, true, true, true, true, true, true, true, true, true, true, false, false, false]) rfl rfl rfl rfl rfl (by kernel_rfl) (by kernel_rfl) (by kernel_rfl) rfl (by kernel_rfl) rfl (by repeat (first | exact np_post | refine np_then ?_ | refine np_in ?_)) (by first | (intro p hp; (repeat (first | exact hp | apply List.mem_cons_of_mem | apply List.mem_append_right)); done) | (repeat (first | exact in_nil | refine in_cons (by repeat (first | exact List.mem_cons_self | apply List.mem_cons_of_mem | apply List.mem_append_right)) ?_))) (by first | exact Le.refl _ | assumption | exact Le.trans ‹_› ‹_›) rfl (y_b2s ty22 ty9 ty5 rfl (Src.bytes hsub) ⟨_, _, _, rfl⟩) ?_
      refine a_valG (i := 22) (listed' := #[true, true, true, true, true, true, true, true, true, true, true, true, true, true, true, true, true, true, true, true, true, true, true, false, false]) rfl rfl rfl rfl rfl (by kernel_rfl) (by kernel_rfl) (by kernel_rfl) rfl (by kernel_rfl) rfl (by repeat (first | exact np_post | refine np_then ?_ | refine np_in ?_)) (by first | (intro p hp; (repeat (first | exact hp | apply List.mem_cons_of_mem | apply List.mem_append_right)); done) | (repeat (first | exact in_nil | refine in_cons (by repeat (first | exact List.mem_cons_self | apply List.mem_cons_of_mem | apply List.mem_append_right)) ?_))) (by first | exact Le.refl _ | assumption | exact Le.trans ‹_› ‹_›) rfl (y_pe (.bool true) rfl (congrArg Value.bool (decide_eq_true rfl))) ?_
      refine a_val (i := 23) (listed' := #[true, true, true, true, true, true, true, true, true, true, true, true, true, true, true, true, true, true, true, true, true, true, true, true, false]) rfl rfl rfl (by kernel_rfl) (by kernel_rfl) (by kernel_rfl) rfl (by kernel_rfl) rfl (by repeat (first | exact np_post | refine np_then ?_ | refine np_in ?_)) (by first | (intro p hp; (repeat (first | exact hp | apply List.mem_cons_of_mem | apply List.mem_append_right)); done) | (repeat (first | exact in_nil | refine in_cons (by repeat (first | exact List.mem_cons_self | apply List.mem_cons_of_mem | apply List.mem_append_right)) ?_))) (by first | exact Le.refl _ | assumption | exact Le.trans ‹_› ‹_›) rfl (y_p rfl) ?_
      refine a_one (i := 24) (listed' := #[true, true, true, true, true, true, true, true, true, true, true, true, true, true, true, true, true, true, true, true, true, true, true, true, true]) rfl rfl (by kernel_rfl) rfl rfl (.inr ⟨(by first | (intro p hp; (repeat (first | exact hp | apply List.mem_cons_of_mem | apply List.mem_append_right)); done) | (repeat (first | exact in_nil | refine in_cons (by repeat (first | exact List.mem_cons_self | apply List.mem_cons_of_mem | apply List.mem_append_right)) ?_))), (by first | exact Le.refl _ | assumption | exact Le.trans ‹_› ‹_›)⟩) (e_val rfl (y_p rfl) ?_)
      refine a_done (by kernel_rfl) (by kernel_rfl) ?_
      refine q_then ?_
      refine w_ret ?_
      refine r_one rfl rfl ?_
      -- leaf 2
      rfl

end Go.SL
