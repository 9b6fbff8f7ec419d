import Derived.Test.YtgefikehhcgdnaaGreatDoorLine

/- Status lines and fields: contracts. No condition. -/
namespace Go.SL
open Go.Proofs
set_option maxRecDepth 10000

theorem c_Join {F : FH} {v : Value} {xs : List (List UInt8)} (hx : SlAt F encS v xs) (sep : List UInt8) (h1 : xs.length ≤ 1073741824) (h2 : (Lib.join xs sep).length ≤ 4000000000) :
    FnV Tryz.prog 61 [v, str sep] F (str (Lib.join xs sep)) :=
  fnv_below (⟨_, Tryz.func61, by kernel_rfl, rfl⟩ : Callable Tryz.prog 61) fun w hw => by
    rcases hx with ⟨rfl, a, cap, rfl⟩ | ⟨b, off, cap, rfl, hcap, hC⟩
    · exact (Tryz.strings_Join_none a cap ⟨sep.toArray⟩ w).mono fun e w' ⟨he, hw'⟩ => ⟨he, by rw [hw']; exact Go.RowKit.Below.refl _ _⟩
    · have hcell : ∀ (j : Nat) (x : List UInt8), xs[j]? = some x → w.cell? ⟨b, off + j, none⟩ = some (str x) := fun j x hj => by
        have : (xs.flatMap encS)[j]? = some (str x) := by
          have he : xs.flatMap encS = xs.map fun x => str x := by clear hcap hC hj h1 h2; induction xs <;> simp_all
          rw [he, List.getElem?_map, hj]; rfl
        exact hC.cell hw this
      by_cases h0 : xs = []
      · subst h0
        exact (Tryz.strings_Join_none _ cap ⟨sep.toArray⟩ w).mono fun e w' ⟨he, hw'⟩ => ⟨he, by rw [hw']; exact Go.RowKit.Below.refl _ _⟩
      · have hmap : (xs.map fun l => (ByteArray.mk l.toArray)).map (·.data.toList) = xs := by simp [Function.comp_def]
        have hb : b < w.heap.size := by
          obtain ⟨c, u, fz, g1, _⟩ := hC
          exact lt_of_get (hw.fr _ _ g1)
        have h := Tryz.strings_Join b off cap (xs.map fun l => (ByteArray.mk l.toArray)) ⟨sep.toArray⟩ w (fun j x hj => by
          rw [List.getElem?_map] at hj
          cases hxj : xs[j]? with
          | none => rw [hxj] at hj; simp at hj
          | some y => rw [hxj] at hj; simp at hj; rw [← hj]; exact hcell j y hxj) hb (by simp; omega) (by simpa using hcap) (by rw [hmap]; simp only [List.toList_toArray]; omega)
        rw [hmap] at h
        simpa using h

def joinV (l : List Fld) (name : List UInt8) : List UInt8 := Lib.join (valsOf l name) [44, 32]
def getS (l : List Fld) (name : List UInt8) : List UInt8 × Int := (joinV l name, ((valsOf l name).length : Int))
/-- Fields that a walk may carry: few and short. -/
def FsOk (l : List Fld) : Prop := l.length ≤ 1000000 ∧ sumV l ≤ 1000000000 ∧ ∀ f ∈ l, f.n.length ≤ 1000000000 ∧ f.v.length ≤ 1000000000

theorem sum_filter (l : List Fld) (p : Fld → Bool) : ((l.filter p).map fun f => f.v.length + 2).sum ≤ sumV l := by
  unfold sumV
  induction l with
  | nil => simp
  | cons f l ih =>
    simp only [List.filter_cons]
    split <;> simp only [List.map_cons, List.sum_cons] <;> omega

theorem join_le (xs : List (List UInt8)) : (Lib.join xs [44, 32]).length ≤ (xs.map fun x => x.length + 2).sum := by
  cases xs with
  | nil => simp [Lib.join]
  | cons x r =>
    rw [Lib.join_cons]
    have : ∀ r : List (List UInt8), (Lib.joinTail [44, 32] r).length = (r.map fun x => x.length + 2).sum := by
      intro r
      induction r with
      | nil => simp [Lib.joinTail]
      | cons y r ih => simp only [Lib.joinTail, List.map_cons, List.flatten_cons, List.length_append, List.sum_cons] at ih ⊢; rw [ih]; simp; omega
    simp only [List.length_append, this, List.map_cons, List.sum_cons]; omega

theorem joinV_le {l : List Fld} (h : FsOk l) (name : List UInt8) : (joinV l name).length ≤ 1000000000 := by
  have h1 := join_le (valsOf l name)
  have h2 := sum_filter l (fun f => sameB f.n name)
  have h3 : ((valsOf l name).map fun x => x.length + 2).sum = ((l.filter fun f => sameB f.n name).map fun f => f.v.length + 2).sum := by
    simp [valsOf, Function.comp_def]
  have := h.2.1
  unfold joinV
  omega
theorem vals_len (l : List Fld) (name : List UInt8) : (valsOf l name).length ≤ l.length := by
  simp only [valsOf, List.length_map]; exact List.length_filter_le _ _
theorem vals_snoc {l : List Fld} {k : Nat} (name : List UInt8) (hk : k < l.length) : valsOf (l.take (k + 1)) name = valsOf (l.take k) name ++ (if sameB l[k].n name = true then [l[k].v] else []) := by
  rw [List.take_succ_eq_append_getElem hk]
  simp only [valsOf, List.filter_append, List.map_append]
  congr 1
  by_cases h : sameB l[k].n name = true <;> simp [List.filter_cons, h]
theorem flat_S (xs : List (List UInt8)) : flatL (xs.flatMap encS) = true := by
  induction xs with
  | nil => rfl
  | cons x xs ih => simpa [flatL, one1] using ih

theorem c_StatusLine (minor code : Int) (r : List UInt8) (hm : -9223372036854775808 ≤ minor ∧ minor ≤ 9223372036854775807) (hc : -9223372036854775808 ≤ code ∧ code ≤ 9223372036854775807) (hr : r.length ≤ 1000000000) (F : FH) (hG : Glob F) : FnV Tryz.prog 66 [int minor, int code, str r] F (tup2 (statusS minor code r)) := by
  have hi1 := itoa_len hm
  have hi2 := itoa_len hc
  refine fn_walk Tryz.func66 (by kernel_rfl) rfl rfl rfl ?_
  intro w0
  simp only [numb, List.map_nil, List.map_cons, Nat.zero_add, Nat.reduceAdd, List.cons_append, List.nil_append]
  refine w_seq ?_
  refine w_region ?_
  refine o_run rfl (e_val rfl (y_p rfl) ?_)
  refine o_run rfl (e_val rfl (y_p rfl) ?_)
  refine w_nil ?_
  refine q_then ?_
  refine w_seq ?_
  refine w_seq ?_
  refine w_region ?_
  refine o_run rfl (e_val rfl (y_p rfl) ?_)
  refine o_run rfl (e_callV rfl rfl (c_isMinor _ _) rfl ?_)
  refine o_run rfl (e_val rfl (y_p rfl) ?_)
  refine o_run rfl (e_val rfl (y_p rfl) ?_)
  first | refine PW.wayD (t := 11) rfl rfl (fun h1 => ?_) (fun h1 => ?_) | refine PW.way (t := 11) rfl rfl (fun h1 => ?_) (fun h1 => ?_)
  · refine g_no rfl rfl rfl rfl ?_
    refine g_no rfl rfl rfl rfl ?_
    refine o_run rfl (e_val rfl (y_p rfl) ?_)
    refine o_run rfl (e_val rfl (y_p rfl) ?_)
    refine g_no rfl rfl rfl rfl ?_
    refine g_no rfl rfl rfl rfl ?_
    refine o_run rfl (e_val rfl (y_p rfl) ?_)
    refine o_run rfl (e_val rfl (y_p rfl) ?_)
    refine g_no rfl rfl rfl rfl ?_
    refine g_no rfl rfl rfl rfl ?_
    refine g_no rfl rfl rfl rfl ?_
    refine o_run rfl (e_val rfl (y_p rfl) ?_)
    refine w_nil ?_
    refine q_then ?_
    refine w_condT rfl ?_
    refine w_seq ?_
    refine w_region ?_
    refine o_run rfl (e_val rfl (y_p rfl) ?_)
    refine o_run rfl (e_val rfl (y_p rfl) ?_)
    refine w_nil ?_
    refine q_then ?_
    refine w_ret ?_
    refine q_thenR ?_
    refine r_many (rs := [.tmp 6, .tmp 7]) rfl rfl ?_
    -- leaf 1
    exact tup2_eq (by simp only [statusS]; rw [if_neg]; rintro ⟨g1, g2, g3, g4⟩; first | omega | simp_all)
  · refine o_yes rfl rfl rfl (e_val rfl (y_p rfl) ?_)
    refine o_yes rfl rfl rfl (e_val rfl (y_p rfl) ?_)
    refine o_run rfl (e_val rfl (y_p rfl) ?_)
    refine o_run rfl (e_val rfl (y_p rfl) ?_)
    first | refine PW.wayD (t := 15) rfl rfl (fun h2 => ?_) (fun h2 => ?_) | refine PW.way (t := 15) rfl rfl (fun h2 => ?_) (fun h2 => ?_)
    · refine g_no rfl rfl rfl rfl ?_
      refine g_no rfl rfl rfl rfl ?_
      refine o_run rfl (e_val rfl (y_p rfl) ?_)
      refine o_run rfl (e_val rfl (y_p rfl) ?_)
      refine g_no rfl rfl rfl rfl ?_
      refine g_no rfl rfl rfl rfl ?_
      refine g_no rfl rfl rfl rfl ?_
      refine o_run rfl (e_val rfl (y_p rfl) ?_)
      refine w_nil ?_
      refine q_then ?_
      refine w_condT rfl ?_
      refine w_seq ?_
      refine w_region ?_
      refine o_run rfl (e_val rfl (y_p rfl) ?_)
      refine o_run rfl (e_val rfl (y_p rfl) ?_)
      refine w_nil ?_
      refine q_then ?_
      refine w_ret ?_
      refine q_thenR ?_
      refine r_many (rs := [.tmp 6, .tmp 7]) rfl rfl ?_
      -- leaf 2
      exact tup2_eq (by simp only [statusS]; rw [if_neg]; rintro ⟨g1, g2, g3, g4⟩; first | omega | simp_all)
    · refine o_yes rfl rfl rfl (e_val rfl (y_p rfl) ?_)
      refine o_yes rfl rfl rfl (e_val rfl (y_p rfl) ?_)
      refine o_run rfl (e_val rfl (y_p rfl) ?_)
      refine o_run rfl (e_val rfl (y_p rfl) ?_)
      first | refine PW.wayD (t := 19) rfl rfl (fun h3 => ?_) (fun h3 => ?_) | refine PW.way (t := 19) rfl rfl (fun h3 => ?_) (fun h3 => ?_)
      · refine g_no rfl rfl rfl rfl ?_
        refine g_no rfl rfl rfl rfl ?_
        refine g_no rfl rfl rfl rfl ?_
        refine o_run rfl (e_val rfl (y_p rfl) ?_)
        refine w_nil ?_
        refine q_then ?_
        refine w_condT rfl ?_
        refine w_seq ?_
        refine w_region ?_
        refine o_run rfl (e_val rfl (y_p rfl) ?_)
        refine o_run rfl (e_val rfl (y_p rfl) ?_)
        refine w_nil ?_
        refine q_then ?_
        refine w_ret ?_
        refine q_thenR ?_
        refine r_many (rs := [.tmp 6, .tmp 7]) rfl rfl ?_
        -- leaf 3
        exact tup2_eq (by simp only [statusS]; rw [if_neg]; rintro ⟨g1, g2, g3, g4⟩; first | omega | simp_all)
      · refine o_yes rfl rfl rfl (e_val rfl (y_p rfl) ?_)
        refine o_yes rfl rfl rfl (e_callV rfl rfl (c_isReason _ (by omega) _) rfl ?_)
        refine o_yes rfl rfl rfl (e_val rfl (y_p rfl) ?_)
        refine o_run rfl (e_val rfl (y_p rfl) ?_)
        refine w_nil ?_
        refine q_then ?_
        first | refine w_condD rfl (fun h4 => ?_) (fun h4 => ?_) | refine w_condN rfl (fun h4 => ?_) (fun h4 => ?_) | refine w_cond rfl (fun h4 => ?_) (fun h4 => ?_)
        · refine w_seq ?_
          refine w_region ?_
          refine o_run rfl (e_val rfl (y_p rfl) ?_)
          refine o_run rfl (e_val rfl (y_p rfl) ?_)
          refine w_nil ?_
          refine q_then ?_
          refine w_ret ?_
          refine q_thenR ?_
          refine r_many (rs := [.tmp 6, .tmp 7]) rfl rfl ?_
          -- leaf 4
          exact tup2_eq (by simp only [statusS]; rw [if_neg]; rintro ⟨g1, g2, g3, g4⟩; first | omega | simp_all)
        · refine w_skip ?_
          refine q_then ?_
          refine w_seq ?_
          refine w_region ?_
          refine o_run rfl (e_val rfl (y_p rfl) ?_)
          refine o_run rfl (e_callV rfl rfl (c_Itoa _ (by omega) _ hG) rfl ?_)
          refine o_run rfl (e_val rfl (y_cat rfl rfl (by simp only [List.length_append, List.length_cons, List.length_nil]; omega)) ?_)
          refine o_run rfl (e_val rfl (y_cat rfl rfl (by simp only [List.length_append, List.length_cons, List.length_nil]; omega)) ?_)
          refine o_run rfl (e_val rfl (y_p rfl) ?_)
          refine o_run rfl (e_callV rfl rfl (c_Itoa _ (by omega) _ hG) rfl ?_)
          refine o_run rfl (e_val rfl (y_cat rfl rfl (by simp only [List.length_append, List.length_cons, List.length_nil]; omega)) ?_)
          refine o_run rfl (e_val rfl (y_cat rfl rfl (by simp only [List.length_append, List.length_cons, List.length_nil]; omega)) ?_)
          refine o_run rfl (e_val rfl (y_p rfl) ?_)
          refine o_run rfl (e_val rfl (y_cat rfl rfl (by simp only [List.length_append, List.length_cons, List.length_nil]; omega)) ?_)
          refine o_run rfl (e_callV rfl rfl (c_fits _ _) rfl ?_)
          refine o_run rfl (e_val rfl (y_p rfl) ?_)
          refine o_run rfl (e_val rfl (y_p rfl) ?_)
          refine o_run rfl (e_val rfl (y_p rfl) ?_)
          refine o_run rfl (e_val rfl (y_p rfl) ?_)
          refine w_nil ?_
          refine q_then ?_
          refine w_ret ?_
          refine r_many (rs := [.tmp 6, .tmp 7]) rfl rfl ?_
          -- leaf 5
          simp only [Bool.not_eq_false'] at h1 h4
          simp only [statusS]; rw [if_pos ⟨h1, by omega, by omega, h4⟩]; rfl

theorem c_fine (f : Fld) (hf : FOk f) (F : FH) : FnV Tryz.prog 176 [.agg (encF f).toArray] F (.bool (fineB f)) := by
  obtain ⟨hf1, hf2⟩ := hf
  refine fn_walk Tryz.func176 (by kernel_rfl) rfl rfl rfl ?_
  intro w0
  simp only [numb, List.map_nil, List.map_cons, Nat.zero_add, Nat.reduceAdd, List.cons_append, List.nil_append]
  refine w_seq ?_
  refine w_region ?_
  refine o_run rfl (e_box rfl rfl rfl (fun b1 => ?_))
  refine o_run rfl (e_val rfl (y_p rfl) ?_)
  refine w_nil ?_
  refine q_then ?_
  refine w_seq ?_
  refine w_region ?_
  refine o_run rfl (e_val rfl (y_fa fo57_0 rfl) ?_)
  refine o_run rfl (e_val rfl (y_ld ty9 rfl rfl) ?_)
  refine o_run rfl (e_callV rfl rfl (c_Is _ (by omega) _) rfl ?_)
  refine o_run rfl (e_val rfl (y_p rfl) ?_)
  first | refine PW.wayD (t := 6) rfl rfl (fun h1 => ?_) (fun h1 => ?_) | refine PW.way (t := 6) rfl rfl (fun h1 => ?_) (fun h1 => ?_)
  · refine o_yes rfl rfl rfl (e_val rfl (y_fa fo57_1 rfl) ?_)
    refine o_yes rfl rfl rfl (e_val rfl (y_ld ty9 rfl rfl) ?_)
    refine o_yes rfl rfl rfl (e_callV rfl rfl (c_Value _ (by omega) _) rfl ?_)
    refine o_run rfl (e_val rfl (y_p rfl) ?_)
    refine o_run rfl (e_val rfl (y_p rfl) ?_)
    refine w_nil ?_
    refine q_then ?_
    refine w_ret ?_
    refine r_one rfl rfl ?_
    -- leaf 1
    simp only [fineB]; rw [h1, Bool.true_and]
  · refine g_no rfl rfl rfl rfl ?_
    refine g_no rfl rfl rfl rfl ?_
    refine g_no rfl rfl rfl rfl ?_
    refine o_run rfl (e_val rfl (y_p rfl) ?_)
    refine o_run rfl (e_val rfl (y_p rfl) ?_)
    refine w_nil ?_
    refine q_then ?_
    refine w_ret ?_
    refine r_one rfl rfl ?_
    -- leaf 2
    simp only [fineB]; rw [h1, Bool.false_and]

theorem c_FLine (f : Fld) (hf : FOk f) (F : FH) : FnV Tryz.prog 123 [.agg (encF f).toArray] F (tup2 (lineS f)) := by
  obtain ⟨hf1, hf2⟩ := id hf
  refine fn_walk Tryz.func123 (by kernel_rfl) rfl rfl rfl ?_
  intro w0
  simp only [numb, List.map_nil, List.map_cons, Nat.zero_add, Nat.reduceAdd, List.cons_append, List.nil_append]
  refine w_seq ?_
  refine w_region ?_
  refine o_run rfl (e_box rfl rfl rfl (fun b1 => ?_))
  refine o_run rfl (e_val rfl (y_p rfl) ?_)
  refine o_run rfl (e_val rfl (y_p rfl) ?_)
  refine w_nil ?_
  refine q_then ?_
  refine w_seq ?_
  refine w_seq ?_
  refine w_region ?_
  refine o_run rfl (e_val rfl (y_ld ty57 rfl rfl) ?_)
  refine o_run rfl (e_callV rfl rfl (c_fine f hf _) rfl ?_)
  refine o_run rfl (e_val rfl (y_p rfl) ?_)
  refine w_nil ?_
  refine q_then ?_
  first | refine w_condD rfl (fun h1 => ?_) (fun h1 => ?_) | refine w_condN rfl (fun h1 => ?_) (fun h1 => ?_) | refine w_cond rfl (fun h1 => ?_) (fun h1 => ?_)
  · refine w_seq ?_
    refine w_region ?_
    refine o_run rfl (e_val rfl (y_p rfl) ?_)
    refine o_run rfl (e_val rfl (y_p rfl) ?_)
    refine w_nil ?_
    refine q_then ?_
    refine w_ret ?_
    refine q_thenR ?_
    refine r_many (rs := [.tmp 2, .tmp 3]) rfl rfl ?_
    -- leaf 1
    exact tup2_eq (by simp only [lineS]; rw [if_neg (by simpa using h1)])
  · refine w_skip ?_
    refine q_then ?_
    refine w_seq ?_
    refine w_region ?_
    refine o_run rfl (e_val rfl (y_fa fo57_0 rfl) ?_)
    refine o_run rfl (e_val rfl (y_ld ty9 rfl rfl) ?_)
    refine o_run rfl (e_val rfl (y_cat rfl rfl (by simp only [List.length_append, List.length_cons, List.length_nil]; omega)) ?_)
    refine o_run rfl (e_val rfl (y_fa fo57_1 rfl) ?_)
    refine o_run rfl (e_val rfl (y_ld ty9 rfl rfl) ?_)
    refine o_run rfl (e_val rfl (y_cat rfl rfl (by simp only [List.length_append, List.length_cons, List.length_nil]; omega)) ?_)
    refine o_run rfl (e_val rfl (y_p rfl) ?_)
    refine o_run rfl (e_val rfl (y_p rfl) ?_)
    refine w_nil ?_
    refine q_then ?_
    refine w_ret ?_
    refine r_many (rs := [.tmp 2, .tmp 3]) rfl rfl ?_
    -- leaf 2
    exact tup2_eq (by simp only [lineS]; rw [if_pos (by simpa using h1)])

theorem c_Get (F : FH) (v : Value) (l : List Fld) (name : List UInt8) (hv : SlAt F encF v l) (hl : FsOk l) (hn : name.length ≤ 1000000000) : FnV Tryz.prog 29 [v, str name] F (tup2 (getS l name)) := by
  obtain ⟨a0, cap0, rfl, hcase⟩ := hv.at
  obtain ⟨hl1, hl2, hl3⟩ := id hl
  refine fn_walk Tryz.func29 (by kernel_rfl) rfl rfl rfl ?_
  intro w0
  simp only [numb, List.map_nil, List.map_cons, Nat.zero_add, Nat.reduceAdd, List.cons_append, List.nil_append]
  refine w_seq ?_
  refine w_region ?_
  refine o_run rfl (e_val rfl (y_p rfl) ?_)
  refine o_run rfl (e_val rfl (y_p rfl) ?_)
  refine w_nil ?_
  refine q_then ?_
  refine w_seq ?_
  refine w_region ?_
  refine o_run rfl (e_val rfl (y_p rfl) ?_)
  refine w_nil ?_
  refine q_then ?_
  refine w_seq ?_
  refine w_seq ?_
  refine w_region ?_
  refine o_run rfl (e_val rfl (y_p rfl) ?_)
  refine o_run rfl (e_val rfl (y_lenL ty27 rfl) ?_)
  refine o_run rfl (e_val rfl (y_p rfl) ?_)
  refine w_nil ?_
  refine q_then ?_
  refine w_block ?_
  refine w_loop (T := Nat × Value × Blks) (fun x => ([(1, str name), (6, x.2.1), (9, .slice a0 l.length cap0), (10, int l.length), (11, int x.1)], F, x.2.2)) (fun x => x.1 ≤ l.length ∧ Own 9 1 ((valsOf (l.take x.1) name).flatMap encS) (valsOf (l.take x.1) name).length x.2.1 x.2.2) (fun x => l.length - x.1) (0, .slice none 0 0, []) (⟨Nat.zero_le _, by simpa [valsOf] using Own.nil 9 1⟩) (by repeat (first | exact trivial | refine ⟨rfl, ?_⟩)) rfl rfl ?_
  rintro ⟨k, v6, Γo⟩ ⟨hk, hO⟩
  dsimp only at hk hO ⊢
  refine w_seq ?_
  refine w_region ?_
  refine o_run rfl (e_val rfl (y_p rfl) ?_)
  refine w_nil ?_
  refine q_then ?_
  refine w_seq ?_
  first | refine w_condD rfl (fun h1 => ?_) (fun h1 => ?_) | refine w_condN rfl (fun h1 => ?_) (fun h1 => ?_) | refine w_cond rfl (fun h1 => ?_) (fun h1 => ?_)
  · refine w_skip ?_
    refine q_then ?_
    refine w_seq ?_
    refine w_block ?_
    refine w_seq ?_
    refine w_region ?_
    have hk' : k < l.length := by omega
    obtain ⟨b0, off0, rfl, hcap0, hC⟩ := hcase (by intro h; simp [h] at hk')
    have hfk := hl3 l[k] (List.getElem_mem hk')
    refine o_run rfl (e_val rfl (y_ia ty27 ty57 rfl rfl (by omega)) ?_)
    refine o_run rfl (e_val rfl (y_ldC ty57 rfl hC (ld_fm encF_len l hk')) ?_)
    refine o_run rfl (e_alloc ty57 rfl rfl (fun b8 => ?_))
    refine o_run rfl (e_st ty57 rfl rfl rfl rfl rfl rfl ?_)
    refine w_nil ?_
    refine q_then ?_
    refine w_seq ?_
    refine w_region ?_
    refine o_run rfl (e_val rfl (y_fa fo57_0 rfl) ?_)
    refine o_run rfl (e_val rfl (y_ld ty9 rfl rfl) ?_)
    refine o_run rfl (e_val rfl (y_p rfl) ?_)
    refine o_run rfl (e_callV rfl rfl (c_Same _ _ (by omega) (by omega) _) rfl ?_)
    refine w_nil ?_
    refine q_then ?_
    first | refine w_condD rfl (fun h2 => ?_) (fun h2 => ?_) | refine w_condN rfl (fun h2 => ?_) (fun h2 => ?_) | refine w_cond rfl (fun h2 => ?_) (fun h2 => ?_)
    · refine w_region ?_
      refine o_run rfl (e_val rfl (y_p rfl) ?_)
      refine o_run rfl (e_val rfl (y_fa fo57_1 rfl) ?_)
      refine o_run rfl (e_val rfl (y_ld ty9 rfl rfl) ?_)
      refine o_run rfl (e_bs ty40 ty9 (by omega) rfl rfl rfl rfl (fun b22 => ?_))
      refine o_run rfl (e_app ty40 ty40.u (.inl ⟨_, rfl⟩) ty9 rfl rfl rfl hO (List.perm_append_comm (l₁ := [_, _]) (l₂ := Γo)) (Src.lit rfl) rfl (by have := vals_len (l.take k) name; simp only [List.length_take] at this; omega) (by decide) rfl (fun v' Γo' hO' => ?_))
      refine o_run rfl (e_val rfl (y_p rfl) ?_)
      refine w_nil ?_
      refine q_in ?_
      refine q_then ?_
      refine w_region ?_
      refine o_run rfl (e_val rfl (y_addI rfl rfl (by omega)) ?_)
      refine o_run rfl (e_val rfl (y_p rfl) ?_)
      refine w_nil ?_
      refine PW.sub [_, _] Γo' (by exact List.perm_append_comm) ?_
      refine q_round (k+1, v', Γo') ⟨by dsimp only; omega, ?_⟩ (by dsimp only; omega) ⟨rfl, rfl, rfl, rfl, rfl, trivial⟩ rfl rfl
      dsimp only
      rw [vals_snoc name hk', if_pos h2]
      simpa using hO'
    · refine w_skip ?_
      refine q_in ?_
      refine q_then ?_
      refine w_region ?_
      refine o_run rfl (e_val rfl (y_addI rfl rfl (by omega)) ?_)
      refine o_run rfl (e_val rfl (y_p rfl) ?_)
      refine w_nil ?_
      refine PW.sub [_] Γo (List.Perm.refl _) ?_
      refine q_round (k+1, v6, Γo) ⟨by dsimp only; omega, ?_⟩ (by dsimp only; omega) ⟨rfl, rfl, rfl, rfl, rfl, trivial⟩ rfl rfl
      dsimp only
      rw [vals_snoc name hk', if_neg (by simpa using h2), List.append_nil]
      exact hO
  · refine w_exit ?_
    refine q_thenE ?_
    refine q_thenE ?_
    refine q_inE ?_
    refine q_then ?_
    refine w_seq ?_
    refine w_region ?_
    obtain rfl : k = l.length := by omega
    rw [List.take_length] at hO
    refine PW.freezeOwn (Γr := []) hO (by rw [List.append_nil]) (fun F' hF hS => ?_)
    obtain ⟨a6, cap6, rfl, -⟩ := hS.at
    refine o_run rfl (e_val rfl (y_p rfl) ?_)
    refine o_run rfl (e_callV rfl rfl (c_Join hS _ (by have := vals_len l name; omega) (by have := joinV_le hl name; simp only [joinV] at this; omega)) rfl ?_)
    refine o_run rfl (e_val rfl (y_p rfl) ?_)
    refine o_run rfl (e_val rfl (y_lenL ty40 rfl) ?_)
    refine o_run rfl (e_val rfl (y_p rfl) ?_)
    refine o_run rfl (e_val rfl (y_p rfl) ?_)
    refine w_nil ?_
    refine q_then ?_
    refine w_ret ?_
    refine r_many (rs := [.tmp 4, .tmp 5]) rfl rfl ?_
    -- leaf 1
    rfl

end Go.SL
