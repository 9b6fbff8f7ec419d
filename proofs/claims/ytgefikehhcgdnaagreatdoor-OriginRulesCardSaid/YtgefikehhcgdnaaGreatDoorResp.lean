import Derived.Test.YtgefikehhcgdnaaGreatDoorWout

/- Responses written: contracts. No condition. -/
namespace Go.SL
open Go.Proofs
set_option maxRecDepth 10000

def crlf : List UInt8 := [13, 10]
def clenL : List UInt8 := [67, 111, 110, 116, 101, 110, 116, 45, 76, 101, 110, 103, 116, 104, 58, 32]
/-- Lines of fields behind what is there, or what is wrong with one. -/
def wlines (a : List UInt8) : List Fld → List UInt8 ⊕ Int
  | [] => .inl a
  | f :: r => if (lineS f).2 = 0 then wlines (a ++ (lineS f).1 ++ crlf) r else .inr (lineS f).2
def wtail (a : List UInt8) (k : Nat) (body : List UInt8) (cl : Bool) : List UInt8 × Int :=
  let a' := (if cl = true then a ++ (clenL ++ Lib.itoa body.length) ++ crlf else a) ++ [] ++ crlf
  if 1048576 < body.length ∨ 63 < k ∨ 8192 < a'.length then ([], 3) else (a' ++ body, 0)
def writeS (s : List UInt8) (l : List Fld) (body : List UInt8) (cl : Bool) : List UInt8 × Int :=
  match wlines (s ++ crlf) l with
  | .inl a => wtail a l.length body cl
  | .inr e => ([], e)
theorem lineS_len {f : Fld} (h : FOk f) : (lineS f).1.length ≤ f.n.length + f.v.length + 2 := by
  simp only [lineS]; split <;> simp; omega
def sumL (l : List Fld) : Nat := (l.map fun f => f.n.length + f.v.length + 4).sum
/-- Fields that a walk may write. -/
def FsW (l : List Fld) : Prop := FsOk l ∧ sumL l ≤ 500000000
theorem FsW.filter {l : List Fld} (h : FsW l) (p : Fld → Bool) : FsW (l.filter p) := by
  refine ⟨woutL_ok h.1 p, Nat.le_trans ?_ h.2⟩
  unfold sumL
  clear h
  induction l with
  | nil => simp
  | cons f l ih =>
    simp only [List.filter_cons]
    split <;> simp only [List.map_cons, List.sum_cons] <;> omega
theorem sumL_take (l : List Fld) (k : Nat) : sumL (l.take k) ≤ sumL l := by
  unfold sumL
  conv => rhs; rw [← List.take_append_drop k l]
  rw [List.map_append, List.sum_append]; omega
theorem sumL_snoc {l : List Fld} {k : Nat} (h : k < l.length) : sumL (l.take (k + 1)) = sumL (l.take k) + (l[k].n.length + l[k].v.length + 4) := by
  unfold sumL
  rw [List.take_succ_eq_append_getElem h, List.map_append, List.sum_append]; simp
abbrev T22 : TypeId := 22
abbrev Tb : TypeId := 5
theorem flat_encB (l : List UInt8) : flatL (l.flatMap encB) = true := by rw [← bytes_flat]; exact flat_bytes l
theorem Src.lits {P : Program} {F : FH} {Γ : Blks} (l : List UInt8) : Src P F Γ 1 (Go.SL.str l) l.length (l.flatMap encB) := by rw [← bytes_flat]; exact Src.str
theorem Own.bytes {T : TypeId} {n : Nat} {a b : List UInt8} {v : Value} {Γo : Blks} (h : Own T 1 (a.flatMap encB ++ b.flatMap encB) n v Γo) : Own T 1 ((a ++ b).flatMap encB) n v Γo := by rw [List.flatMap_append]; exact h
/-- Bytes that the walk owns. -/
def OwnB (a : List UInt8) (v : Value) (Γo : Blks) : Prop := Own Tb 1 (a.flatMap encB) a.length v Γo
theorem OwnB.val {a : List UInt8} {v : Value} {Γo : Blks} (h : OwnB a v Γo) : ∃ p c, v = .slice p a.length c := by
  rcases h.2 with ⟨h1, h2, -⟩ | ⟨b, c, _, _, h1, -⟩
  · exact ⟨none, 0, by rw [h1, h2]⟩
  · exact ⟨_, c, h1⟩
theorem OwnB.app {a b : List UInt8} {v : Value} {Γo : Blks} (h : Own Tb 1 (a.flatMap encB ++ b.flatMap encB) (a.length + b.length) v Γo) : OwnB (a ++ b) v Γo := by
  unfold OwnB; rw [List.flatMap_append, List.length_append]; exact h

theorem c_line (F : FH) (bo : Nat) (v : Value) (a s : List UInt8) (Γo : Blks) (hO : OwnB a v Γo) (ha : a.length + s.length ≤ 1000000000) : Fn Tryz.prog 122 ([str s] ++ [.pointer (some ⟨bo, 0, none⟩)]) F ((bo, .cells (List.toArray [v]) T22 (0, 0)) :: Γo) (fun r _ Γ' => r = .tuple #[] ∧ ∃ v' Γo', OwnB (a ++ s ++ crlf) v' Γo' ∧ Γ' = (bo, .cells (List.toArray [v']) T22 (0, 0)) :: Γo') := by
  refine fn_walk Tryz.func122 (by kernel_rfl) rfl rfl rfl ?_
  intro w0
  simp only [numb, List.map_nil, List.map_cons, Nat.zero_add, Nat.reduceAdd, List.cons_append, List.nil_append]
  refine w_region ?_
  refine o_run rfl (e_val rfl (y_ld ty22 rfl rfl) ?_)
  refine o_run rfl (e_val rfl (y_p rfl) ?_)
  refine o_run rfl (e_app ty22 ty9.u (.inr rfl) ty5 rfl rfl rfl hO (List.perm_append_comm (l₁ := [_]) (l₂ := Γo)) (Src.lits s) (flat_encB s) (by omega) (by decide) rfl (fun v1 Γ1 hO1 => ?_))
  have hO1 := OwnB.app hO1
  refine o_run rfl (e_app ty22 ty9.u (.inr rfl) ty5 rfl rfl rfl hO1 (List.Perm.refl _) (Src.lits [13, 10]) (flat_encB _) (by simp only [List.length_append, List.length_cons, List.length_nil]; omega) (by decide) rfl (fun v2 Γ2 hO2 => ?_))
  have hO2 := OwnB.app hO2
  obtain ⟨p2, c2, rfl⟩ := hO2.val
  refine PW.sub [] _ (List.perm_append_comm (l₁ := Γ2) (l₂ := [_])) ?_
  refine o_run rfl (e_st ty22 rfl rfl rfl rfl rfl rfl ?_)
  refine w_nil ?_
  refine r_none rfl ?_
  -- leaf 1
  exact ⟨rfl, _, _, hO2, rfl⟩


theorem writeS_of {s body a : List UInt8} {l : List Fld} {cl : Bool} (h : wlines (s ++ crlf) l = .inl a) : writeS s l body cl = wtail a l.length body cl := by simp [writeS, h]
theorem wtail_t {a a' body : List UInt8} {k : Nat} (e : a' = a ++ (clenL ++ Lib.itoa body.length) ++ crlf ++ [] ++ crlf) : wtail a k body true = if 1048576 < body.length ∨ 63 < k ∨ 8192 < a'.length then ([], 3) else (a' ++ body, 0) := by subst e; rfl
theorem wtail_f {a a' body : List UInt8} {k : Nat} (e : a' = a ++ [] ++ crlf) : wtail a k body false = if 1048576 < body.length ∨ 63 < k ∨ 8192 < a'.length then ([], 3) else (a' ++ body, 0) := by subst e; rfl
theorem two_eq {F : FH} {p q : List UInt8 × Int} {v : Value} (h : p = q) (hv : SlAt F encB v q.1) : ∃ u, Value.tuple #[v, int q.2] = .tuple #[u, int p.2] ∧ SlAt F encB u p.1 ∧ ([] : Blks) = [] := by subst h; exact ⟨v, rfl, hv, rfl⟩

theorem c_write (F : FH) (hG : Glob F) (s body : List UInt8) (vf vb : Value) (l : List Fld) (cl : Bool) (hf : SlAt F encF vf l) (hl : FsW l) (hb : SlAt F encB vb body) (hs : s.length ≤ 2000) (hbl : body.length ≤ 1000000000) : Fn Tryz.prog 67 [str s, vf, vb, .bool cl] F [] (fun r F' Γ' => ∃ v, r = .tuple #[v, int (writeS s l body cl).2] ∧ SlAt F' encB v (writeS s l body cl).1 ∧ Γ' = []) := by
  obtain ⟨a0, cap0, rfl, hcase⟩ := hf.at
  obtain ⟨ab, capb, rfl, -⟩ := hb.at
  obtain ⟨⟨hl1, hl2, hl3⟩, hl4⟩ := id hl
  have hi := itoa_len (n := (body.length : Int)) (by omega)
  refine fn_walk Tryz.func67 (by kernel_rfl) rfl rfl rfl ?_
  intro w0
  simp only [numb, List.map_nil, List.map_cons, Nat.zero_add, Nat.reduceAdd, List.cons_append, List.nil_append]
  refine w_seq ?_
  refine w_region ?_
  refine o_run rfl (e_val rfl (y_p rfl) ?_)
  refine o_run rfl (e_val rfl (y_p rfl) ?_)
  refine w_nil ?_
  refine q_then ?_
  refine w_seq ?_
  refine w_region ?_
  refine o_run rfl (e_alloc ty22 rfl rfl (fun bo => ?_))
  refine w_nil ?_
  refine q_then ?_
  refine w_seq ?_
  refine w_region ?_
  refine o_run rfl (e_val rfl (y_p rfl) ?_)
  refine o_run rfl (e_val rfl (y_p rfl) ?_)
  refine w_nil ?_
  refine q_then ?_
  refine w_seq ?_
  refine w_region ?_
  refine o_run rfl (e_val rfl (y_p rfl) ?_)
  refine o_run rfl (e_val rfl (y_p rfl) ?_)
  refine o_run rfl (e_callK (Γ2 := []) rfl rfl (c_line _ bo _ [] s [] (Own.nil _ _) (by simp; omega)) (by exact List.Perm.refl _) rfl (fun r3 Γ3 hR3 => ?_))
  obtain ⟨rfl, v1, Γ1, hO1, rfl⟩ := hR3
  rw [List.append_nil]
  refine w_nil ?_
  refine q_then ?_
  refine w_seq ?_
  refine w_seq ?_
  refine w_region ?_
  refine o_run rfl (e_val rfl (y_p rfl) ?_)
  refine o_run rfl (e_val rfl (y_lenL ty27 rfl) ?_)
  refine o_run rfl (e_val rfl (y_p rfl) ?_)
  refine w_nil ?_
  refine q_then ?_
  refine w_block ?_
  refine w_loop (T := Nat × Value × Blks × List UInt8) (fun x => ([(1, .slice a0 l.length cap0), (2, .slice ab body.length capb), (3, .bool cl), (10, .pointer (some ⟨bo, 0, none⟩)), (11, .func (.func 122) #[] (List.toArray [.pointer (some ⟨bo, 0, none⟩)])), (20, .slice a0 l.length cap0), (21, int l.length), (22, int x.1)], F, (bo, .cells (List.toArray [x.2.1]) T22 (0, 0)) :: x.2.2.1)) (fun x => x.1 ≤ l.length ∧ OwnB x.2.2.2 x.2.1 x.2.2.1 ∧ x.2.2.2.length ≤ s.length + 2 + sumL (l.take x.1) ∧ wlines (s ++ crlf) l = wlines x.2.2.2 (l.drop x.1)) (fun x => l.length - x.1) (0, v1, Γ1, [] ++ s ++ crlf) (⟨Nat.zero_le _, hO1, by simp [crlf], by rw [List.drop_zero, List.nil_append]⟩) (by repeat (first | exact trivial | refine ⟨rfl, ?_⟩)) rfl rfl ?_
  rintro ⟨k, v, Γo, a⟩ ⟨hk, hO, hal, hw⟩
  dsimp only at hk hO hal hw ⊢
  refine w_seq ?_
  refine w_region ?_
  refine o_run rfl (e_val rfl (y_p rfl) ?_)
  refine w_nil ?_
  refine q_then ?_
  refine w_seq ?_
  first | refine w_condD rfl (fun h1 => ?_) (fun h1 => ?_) | refine w_condN rfl (fun h1 => ?_) (fun h1 => ?_) | refine w_cond rfl (fun h1 => ?_) (fun h1 => ?_)
  · refine w_skip ?_
    refine q_then ?_
    refine w_seq ?_
    refine w_block ?_
    refine w_seq ?_
    refine w_region ?_
    have hk' : k < l.length := by omega
    obtain ⟨b0, off0, rfl, hcap0, hC⟩ := hcase (by intro h; simp [h] at hk')
    have hfk := hl3 l[k] (List.getElem_mem hk')
    have hfk2 := sumL_snoc hk'
    have hfk3 := sumL_take l (k + 1)
    have hfk4 := lineS_len hfk
    have hdr := List.drop_eq_getElem_cons hk'
    refine o_run rfl (e_val rfl (y_ia ty27 ty57 rfl rfl (by omega)) ?_)
    refine o_run rfl (e_val rfl (y_ldC ty57 rfl hC (ld_fm encF_len l hk')) ?_)
    refine o_run rfl (e_alloc ty57 rfl rfl (fun bk => ?_))
    refine o_run rfl (e_st ty57 rfl rfl rfl rfl rfl rfl ?_)
    refine w_nil ?_
    refine q_then ?_
    refine w_seq ?_
    refine w_region ?_
    refine o_run rfl (e_val rfl (y_ld ty57 rfl rfl) ?_)
    refine o_run rfl (e_callV rfl rfl (c_FLine _ hfk _) rfl ?_)
    refine o_run rfl (e_val rfl (y_p rfl) ?_)
    refine o_run rfl (e_val rfl (y_p rfl) ?_)
    refine o_run rfl (e_val rfl (y_p rfl) ?_)
    refine o_run rfl (e_val rfl (y_p rfl) ?_)
    refine o_run rfl (e_val rfl (y_p rfl) ?_)
    refine w_nil ?_
    refine q_then ?_
    refine w_seq ?_
    refine w_seq ?_
    refine w_region ?_
    refine o_run rfl (e_val rfl (y_p rfl) ?_)
    refine o_run rfl (e_val rfl (y_p rfl) ?_)
    refine w_nil ?_
    refine q_then ?_
    first | refine w_condD rfl (fun h2 => ?_) (fun h2 => ?_) | refine w_condN rfl (fun h2 => ?_) (fun h2 => ?_) | refine w_cond rfl (fun h2 => ?_) (fun h2 => ?_)
    · refine w_seq ?_
      refine w_region ?_
      refine o_run rfl (e_val rfl (y_p rfl) ?_)
      refine o_run rfl (e_val rfl (y_p rfl) ?_)
      refine o_run rfl (e_val rfl (y_p rfl) ?_)
      refine w_nil ?_
      refine q_then ?_
      refine w_ret ?_
      refine q_thenR ?_
      refine q_inR ?_
      refine q_thenR ?_
      refine q_thenR ?_
      refine q_inR ?_
      refine q_thenR ?_
      refine PW.clear ?_
      refine r_many (rs := [.tmp 8, .tmp 9]) rfl rfl ?_
      -- leaf 1
      have hW : writeS s l body cl = ([], (lineS l[k]).2) := by simp only [writeS, hw, hdr, wlines]; rw [if_neg (by omega)]
      exact two_eq (q := ([], (lineS l[k]).2)) hW SlAt.nil
    · refine w_skip ?_
      refine q_then ?_
      refine w_region ?_
      refine o_run rfl (e_val rfl (y_p rfl) ?_)
      refine o_run rfl (e_val rfl (y_p rfl) ?_)
      refine o_run rfl (e_callK (Γ2 := [_]) rfl rfl (c_line _ bo _ a (lineS l[k]).1 Γo hO (by omega)) (by exact List.perm_append_comm (l₁ := [_]) (l₂ := _ :: Γo)) rfl (fun r3 Γ3 hR3 => ?_))
      obtain ⟨rfl, v1, Γ1, hO1, rfl⟩ := hR3
      refine PW.sub [_] _ List.perm_append_comm ?_
      refine w_nil ?_
      refine q_in ?_
      refine q_then ?_
      refine w_region ?_
      refine o_run rfl (e_val rfl (y_addI rfl rfl (by omega)) ?_)
      refine o_run rfl (e_val rfl (y_p rfl) ?_)
      refine w_nil ?_
      refine q_round (k+1, v1, Γ1, a ++ (lineS l[k]).1 ++ crlf) ⟨by dsimp only; omega, hO1, by dsimp only; simp only [List.length_append, crlf, List.length_cons, List.length_nil]; omega, ?_⟩ (by dsimp only; omega) ⟨rfl, rfl, rfl, rfl, rfl, rfl, rfl, rfl, trivial⟩ rfl rfl
      dsimp only
      rw [hw, hdr, wlines, if_pos (by omega)]
  · refine w_exit ?_
    refine q_thenE ?_
    refine q_thenE ?_
    refine q_inE ?_
    refine q_then ?_
    refine w_seq ?_
    refine w_seq ?_
    refine w_region ?_
    obtain rfl : k = l.length := by omega
    rw [List.drop_length] at hw
    have hW := writeS_of (body := body) (cl := cl) (hw.trans rfl)
    have hlt := sumL_take l l.length
    refine o_run rfl (e_val rfl (y_p rfl) ?_)
    refine w_nil ?_
    refine q_then ?_
    first | refine w_condD rfl (fun h2 => ?_) (fun h2 => ?_) | refine w_condN rfl (fun h2 => ?_) (fun h2 => ?_) | refine w_cond rfl (fun h2 => ?_) (fun h2 => ?_)
    · refine w_region ?_
      refine o_run rfl (e_val rfl (y_p rfl) ?_)
      refine o_run rfl (e_val rfl (y_p rfl) ?_)
      refine o_run rfl (e_val rfl (y_lenL ty22 rfl) ?_)
      refine o_run rfl (e_callV rfl rfl (c_Itoa _ (by omega) _ hG) rfl ?_)
      refine o_run rfl (e_val rfl (y_cat rfl rfl (by simp only [List.length_append, List.length_cons, List.length_nil]; omega)) ?_)
      refine o_run rfl (e_callK (Γ2 := []) rfl rfl (c_line _ bo _ a (clenL ++ Lib.itoa body.length) Γo hO (by simp only [clenL, List.length_append, List.length_cons, List.length_nil]; omega)) (by rw [List.append_nil]) rfl (fun r3 Γ3 hR3 => ?_))
      obtain ⟨rfl, v1, Γ1, hO1, rfl⟩ := hR3
      rw [List.append_nil]
      refine w_nil ?_
      refine q_then ?_
      refine w_seq ?_
      refine w_region ?_
      refine o_run rfl (e_val rfl (y_p rfl) ?_)
      refine o_run rfl (e_callK (Γ2 := []) rfl rfl (c_line _ bo _ _ [] _ (by assumption) (by simp only [List.length_append, List.length_cons, List.length_nil, crlf, clenL]; omega)) (by rw [List.append_nil]) rfl (fun r3 Γ3 hR3 => ?_))
      obtain ⟨rfl, v2, Γ2, hO2, rfl⟩ := hR3
      rw [List.append_nil]
      obtain ⟨p2, c2, rfl⟩ := hO2.val
      refine w_nil ?_
      refine q_then ?_
      refine w_seq ?_
      refine w_seq ?_
      refine w_region ?_
      refine o_run rfl (e_val rfl (y_p rfl) ?_)
      refine o_run rfl (e_val rfl (y_lenL ty22 rfl) ?_)
      refine o_run rfl (e_val rfl (y_p rfl) ?_)
      refine o_run rfl (e_val rfl (y_p rfl) ?_)
      first | refine PW.wayD (t := 50) rfl rfl (fun h3 => ?_) (fun h3 => ?_) | refine PW.way (t := 50) rfl rfl (fun h3 => ?_) (fun h3 => ?_)
      · refine g_no rfl rfl rfl rfl ?_
        refine g_no rfl rfl rfl rfl ?_
        refine g_no rfl rfl rfl rfl ?_
        refine o_run rfl (e_val rfl (y_p rfl) ?_)
        refine o_run rfl (e_val rfl (y_p rfl) ?_)
        refine g_no rfl rfl rfl rfl ?_
        refine g_no rfl rfl rfl rfl ?_
        refine g_no rfl rfl rfl rfl ?_
        refine o_run rfl (e_val rfl (y_p rfl) ?_)
        refine w_nil ?_
        refine q_then ?_
        refine w_condT rfl ?_
        refine w_seq ?_
        refine w_region ?_
        refine o_run rfl (e_val rfl (y_p rfl) ?_)
        refine o_run rfl (e_val rfl (y_p rfl) ?_)
        refine w_nil ?_
        refine q_then ?_
        refine w_ret ?_
        refine q_thenR ?_
        refine PW.clear ?_
        refine r_many (rs := [.tmp 8, .tmp 9]) rfl rfl ?_
        -- leaf 2
        subst h2
        rw [wtail_t rfl, if_pos (by omega)] at hW
        exact two_eq hW SlAt.nil
      · refine o_yes rfl rfl rfl (e_val rfl (y_p rfl) ?_)
        refine o_yes rfl rfl rfl (e_val rfl (y_lenL ty27 rfl) ?_)
        refine o_yes rfl rfl rfl (e_val rfl (y_p rfl) ?_)
        refine o_run rfl (e_val rfl (y_p rfl) ?_)
        refine o_run rfl (e_val rfl (y_p rfl) ?_)
        first | refine PW.wayD (t := 55) rfl rfl (fun h4 => ?_) (fun h4 => ?_) | refine PW.way (t := 55) rfl rfl (fun h4 => ?_) (fun h4 => ?_)
        · refine g_no rfl rfl rfl rfl ?_
          refine g_no rfl rfl rfl rfl ?_
          refine g_no rfl rfl rfl rfl ?_
          refine o_run rfl (e_val rfl (y_p rfl) ?_)
          refine w_nil ?_
          refine q_then ?_
          refine w_condT rfl ?_
          refine w_seq ?_
          refine w_region ?_
          refine o_run rfl (e_val rfl (y_p rfl) ?_)
          refine o_run rfl (e_val rfl (y_p rfl) ?_)
          refine w_nil ?_
          refine q_then ?_
          refine w_ret ?_
          refine q_thenR ?_
          refine PW.clear ?_
          refine r_many (rs := [.tmp 8, .tmp 9]) rfl rfl ?_
          -- leaf 3
          subst h2
          rw [wtail_t rfl, if_pos (by omega)] at hW
          exact two_eq hW SlAt.nil
        · refine o_yes rfl rfl rfl (e_val rfl (y_ld ty22 rfl rfl) ?_)
          refine o_yes rfl rfl rfl (e_val rfl (y_lenL ty22 rfl) ?_)
          refine o_yes rfl rfl rfl (e_val rfl (y_p rfl) ?_)
          refine o_run rfl (e_val rfl (y_p rfl) ?_)
          refine w_nil ?_
          refine q_then ?_
          first | refine w_condD rfl (fun h5 => ?_) (fun h5 => ?_) | refine w_condN rfl (fun h5 => ?_) (fun h5 => ?_) | refine w_cond rfl (fun h5 => ?_) (fun h5 => ?_)
          · refine w_seq ?_
            refine w_region ?_
            refine o_run rfl (e_val rfl (y_p rfl) ?_)
            refine o_run rfl (e_val rfl (y_p rfl) ?_)
            refine w_nil ?_
            refine q_then ?_
            refine w_ret ?_
            refine q_thenR ?_
            refine PW.clear ?_
            refine r_many (rs := [.tmp 8, .tmp 9]) rfl rfl ?_
            -- leaf 4
            subst h2
            rw [wtail_t rfl, if_pos (by omega)] at hW
            exact two_eq hW SlAt.nil
          · refine w_skip ?_
            refine q_then ?_
            refine w_seq ?_
            refine w_region ?_
            refine o_run rfl (e_val rfl (y_ld ty22 rfl rfl) ?_)
            refine o_run rfl (e_val rfl (y_p rfl) ?_)
            refine o_run rfl (e_app ty22 ty22.u (.inl ⟨_, rfl⟩) ty5 rfl rfl rfl hO2 (List.perm_append_comm (l₁ := [_]) (l₂ := Γ2)) (Src.frozen (fun _ => rfl) hb) (flat_encB body) (by omega) (by decide) rfl (fun v3 Γ3 hO3 => ?_))
            have hO3 := OwnB.app hO3
            refine PW.freezeOwn hO3 (List.Perm.refl _) (fun F1 hF1 hS => ?_)
            refine o_run rfl (e_val rfl (y_p rfl) ?_)
            refine o_run rfl (e_val rfl (y_p rfl) ?_)
            refine w_nil ?_
            refine q_then ?_
            refine w_ret ?_
            refine PW.clear ?_
            refine r_many (rs := [.tmp 8, .tmp 9]) rfl rfl ?_
            -- leaf 5
            subst h2
            rw [wtail_t rfl, if_neg (by omega)] at hW
            exact two_eq hW hS
    · refine w_skip ?_
      refine q_then ?_
      refine w_seq ?_
      refine w_region ?_
      refine o_run rfl (e_val rfl (y_p rfl) ?_)
      refine o_run rfl (e_callK (Γ2 := []) rfl rfl (c_line _ bo _ _ [] _ (by assumption) (by simp only [List.length_append, List.length_cons, List.length_nil, crlf, clenL]; omega)) (by rw [List.append_nil]) rfl (fun r3 Γ3 hR3 => ?_))
      obtain ⟨rfl, v2, Γ2, hO2, rfl⟩ := hR3
      rw [List.append_nil]
      obtain ⟨p2, c2, rfl⟩ := hO2.val
      refine w_nil ?_
      refine q_then ?_
      refine w_seq ?_
      refine w_seq ?_
      refine w_region ?_
      refine o_run rfl (e_val rfl (y_p rfl) ?_)
      refine o_run rfl (e_val rfl (y_lenL ty22 rfl) ?_)
      refine o_run rfl (e_val rfl (y_p rfl) ?_)
      refine o_run rfl (e_val rfl (y_p rfl) ?_)
      first | refine PW.wayD (t := 50) rfl rfl (fun h3 => ?_) (fun h3 => ?_) | refine PW.way (t := 50) rfl rfl (fun h3 => ?_) (fun h3 => ?_)
      · refine g_no rfl rfl rfl rfl ?_
        refine g_no rfl rfl rfl rfl ?_
        refine g_no rfl rfl rfl rfl ?_
        refine o_run rfl (e_val rfl (y_p rfl) ?_)
        refine o_run rfl (e_val rfl (y_p rfl) ?_)
        refine g_no rfl rfl rfl rfl ?_
        refine g_no rfl rfl rfl rfl ?_
        refine g_no rfl rfl rfl rfl ?_
        refine o_run rfl (e_val rfl (y_p rfl) ?_)
        refine w_nil ?_
        refine q_then ?_
        refine w_condT rfl ?_
        refine w_seq ?_
        refine w_region ?_
        refine o_run rfl (e_val rfl (y_p rfl) ?_)
        refine o_run rfl (e_val rfl (y_p rfl) ?_)
        refine w_nil ?_
        refine q_then ?_
        refine w_ret ?_
        refine q_thenR ?_
        refine PW.clear ?_
        refine r_many (rs := [.tmp 8, .tmp 9]) rfl rfl ?_
        -- leaf 6
        subst h2
        rw [wtail_f rfl, if_pos (by omega)] at hW
        exact two_eq hW SlAt.nil
      · refine o_yes rfl rfl rfl (e_val rfl (y_p rfl) ?_)
        refine o_yes rfl rfl rfl (e_val rfl (y_lenL ty27 rfl) ?_)
        refine o_yes rfl rfl rfl (e_val rfl (y_p rfl) ?_)
        refine o_run rfl (e_val rfl (y_p rfl) ?_)
        refine o_run rfl (e_val rfl (y_p rfl) ?_)
        first | refine PW.wayD (t := 55) rfl rfl (fun h4 => ?_) (fun h4 => ?_) | refine PW.way (t := 55) rfl rfl (fun h4 => ?_) (fun h4 => ?_)
        · refine g_no rfl rfl rfl rfl ?_
          refine g_no rfl rfl rfl rfl ?_
          refine g_no rfl rfl rfl rfl ?_
          refine o_run rfl (e_val rfl (y_p rfl) ?_)
          refine w_nil ?_
          refine q_then ?_
          refine w_condT rfl ?_
          refine w_seq ?_
          refine w_region ?_
          refine o_run rfl (e_val rfl (y_p rfl) ?_)
          refine o_run rfl (e_val rfl (y_p rfl) ?_)
          refine w_nil ?_
          refine q_then ?_
          refine w_ret ?_
          refine q_thenR ?_
          refine PW.clear ?_
          refine r_many (rs := [.tmp 8, .tmp 9]) rfl rfl ?_
          -- leaf 7
          subst h2
          rw [wtail_f rfl, if_pos (by omega)] at hW
          exact two_eq hW SlAt.nil
        · refine o_yes rfl rfl rfl (e_val rfl (y_ld ty22 rfl rfl) ?_)
          refine o_yes rfl rfl rfl (e_val rfl (y_lenL ty22 rfl) ?_)
          refine o_yes rfl rfl rfl (e_val rfl (y_p rfl) ?_)
          refine o_run rfl (e_val rfl (y_p rfl) ?_)
          refine w_nil ?_
          refine q_then ?_
          first | refine w_condD rfl (fun h5 => ?_) (fun h5 => ?_) | refine w_condN rfl (fun h5 => ?_) (fun h5 => ?_) | refine w_cond rfl (fun h5 => ?_) (fun h5 => ?_)
          · refine w_seq ?_
            refine w_region ?_
            refine o_run rfl (e_val rfl (y_p rfl) ?_)
            refine o_run rfl (e_val rfl (y_p rfl) ?_)
            refine w_nil ?_
            refine q_then ?_
            refine w_ret ?_
            refine q_thenR ?_
            refine PW.clear ?_
            refine r_many (rs := [.tmp 8, .tmp 9]) rfl rfl ?_
            -- leaf 8
            subst h2
            rw [wtail_f rfl, if_pos (by omega)] at hW
            exact two_eq hW SlAt.nil
          · refine w_skip ?_
            refine q_then ?_
            refine w_seq ?_
            refine w_region ?_
            refine o_run rfl (e_val rfl (y_ld ty22 rfl rfl) ?_)
            refine o_run rfl (e_val rfl (y_p rfl) ?_)
            refine o_run rfl (e_app ty22 ty22.u (.inl ⟨_, rfl⟩) ty5 rfl rfl rfl hO2 (List.perm_append_comm (l₁ := [_]) (l₂ := Γ2)) (Src.frozen (fun _ => rfl) hb) (flat_encB body) (by omega) (by decide) rfl (fun v3 Γ3 hO3 => ?_))
            have hO3 := OwnB.app hO3
            refine PW.freezeOwn hO3 (List.Perm.refl _) (fun F1 hF1 hS => ?_)
            refine o_run rfl (e_val rfl (y_p rfl) ?_)
            refine o_run rfl (e_val rfl (y_p rfl) ?_)
            refine w_nil ?_
            refine q_then ?_
            refine w_ret ?_
            refine PW.clear ?_
            refine r_many (rs := [.tmp 8, .tmp 9]) rfl rfl ?_
            -- leaf 9
            subst h2
            rw [wtail_f rfl, if_neg (by omega)] at hW
            exact two_eq hW hS


def clN : List UInt8 := [67, 111, 110, 116, 101, 110, 116, 45, 76, 101, 110, 103, 116, 104]
def teN : List UInt8 := [84, 114, 97, 110, 115, 102, 101, 114, 45, 69, 110, 99, 111, 100, 105, 110, 103]
def ownL (l : List Fld) : List Fld := delL (delL l clN) teN
theorem getS_nil (n : List UInt8) : getS [] n = ([], 0) := rfl
theorem FsOk.nil : FsOk [] := ⟨by simp, by simp [sumV], by simp⟩
theorem FsW.nil : FsW [] := ⟨FsOk.nil, by simp [sumL]⟩
theorem delL_W {l : List Fld} (h : FsW l) (x : List UInt8) : FsW (delL l x) := h.filter _
def bodyless (m : List UInt8) (code : Int) : Bool := decide (m = [72, 69, 65, 68] ∨ code < 200 ∨ code = 204 ∨ code = 304)
def respS (minor code : Int) (reason : List UInt8) (l : List Fld) (body m : List UInt8) : List UInt8 × Int :=
  if (statusS minor code reason).2 = 0 then (if bodyless m code = true then writeS (statusS minor code reason).1 l [] false else writeS (statusS minor code reason).1 (ownL l) body true)
  else ([], (statusS minor code reason).2)
abbrev nilV : Value := .slice none 0 0
theorem statusS_len (a b : Int) (r : List UInt8) : (statusS a b r).1.length ≤ 1024 := by
  simp only [statusS, fitsS]; split
  · split
    · simp
    · simp only; omega
  · simp

theorem c_ownM (F : FH) (v : Value) (l : List Fld) (hv : SlAt F encF v l) (hl : FsW l) : Fn Tryz.prog 68 [v] F [] (fun r F' Γ' => SlAt F' encF r (ownL l) ∧ Γ' = []) := by
  refine fn_walk Tryz.func68 (by kernel_rfl) rfl rfl rfl ?_
  intro w0
  simp only [numb, List.map_nil, List.map_cons, Nat.zero_add, Nat.reduceAdd, List.cons_append, List.nil_append]
  refine w_seq ?_
  refine w_region ?_
  refine o_run rfl (e_val rfl (y_p rfl) ?_)
  refine w_nil ?_
  refine q_then ?_
  refine w_seq ?_
  refine w_region ?_
  refine o_run rfl (e_val rfl (y_p rfl) ?_)
  refine o_run rfl (e_call rfl rfl (c_Del _ _ l clN hv hl.1 (by decide)) (List.Perm.refl _) rfl (fun r1 F1 Γ1 hR1 hF1 => ?_))
  obtain ⟨hS1, rfl⟩ := hR1
  refine o_run rfl (e_call rfl rfl (c_Del _ _ (delL l clN) teN hS1 (delL_W hl clN).1 (by decide)) (List.Perm.refl _) rfl (fun r2 F2 Γ2 hR2 hF2 => ?_))
  obtain ⟨hS2, rfl⟩ := hR2
  refine o_run rfl (e_val rfl (y_p rfl) ?_)
  refine w_nil ?_
  refine q_then ?_
  refine w_ret ?_
  refine r_one rfl rfl ?_
  -- leaf 1
  exact ⟨hS2, rfl⟩

theorem c_length0 (F : FH) : FnV Tryz.prog 146 [nilV] F (.tuple #[int 0, .bool false, int 0]) := by
  refine fn_walk Tryz.func146 (by kernel_rfl) rfl rfl rfl ?_
  intro w0
  simp only [numb, List.map_nil, List.map_cons, Nat.zero_add, Nat.reduceAdd, List.cons_append, List.nil_append]
  refine w_seq ?_
  refine w_region ?_
  refine o_run rfl (e_val rfl (y_p rfl) ?_)
  refine o_run rfl (e_val rfl (y_p rfl) ?_)
  refine o_run rfl (e_val rfl (y_p rfl) ?_)
  refine w_nil ?_
  refine q_then ?_
  refine w_seq ?_
  refine w_region ?_
  refine o_run rfl (e_val rfl (y_p rfl) ?_)
  refine o_run rfl (e_callV rfl rfl (c_Get _ _ [] clN SlAt.nil FsOk.nil (by decide)) rfl ?_)
  refine o_run rfl (e_val rfl (y_p rfl) ?_)
  refine o_run rfl (e_val rfl (y_p rfl) ?_)
  refine o_run rfl (e_val rfl (y_p rfl) ?_)
  refine o_run rfl (e_val rfl (y_p rfl) ?_)
  refine o_run rfl (e_val rfl (y_p rfl) ?_)
  refine w_nil ?_
  refine q_then ?_
  refine w_seq ?_
  refine w_seq ?_
  refine w_region ?_
  refine o_run rfl (e_val rfl (y_p rfl) ?_)
  refine o_run rfl (e_val rfl (y_p (v := .bool true) rfl) ?_)
  refine w_nil ?_
  refine q_then ?_
  refine w_condT rfl ?_
  refine w_seq ?_
  refine w_region ?_
  refine o_run rfl (e_val rfl (y_p rfl) ?_)
  refine o_run rfl (e_val rfl (y_p rfl) ?_)
  refine o_run rfl (e_val rfl (y_p rfl) ?_)
  refine w_nil ?_
  refine q_then ?_
  refine w_ret ?_
  refine q_thenR ?_
  refine r_many (rs := [.tmp 2, .tmp 3, .tmp 4]) rfl rfl ?_
  -- leaf 1
  rfl

theorem c_framed0 (F : FH) (k : Int) : FnV Tryz.prog 90 [int 1, nilV, int k] F (.tuple #[int k, int 0, int 0]) := by
  refine fn_walk Tryz.func90 (by kernel_rfl) rfl rfl rfl ?_
  intro w0
  simp only [numb, List.map_nil, List.map_cons, Nat.zero_add, Nat.reduceAdd, List.cons_append, List.nil_append]
  refine w_seq ?_
  refine w_region ?_
  refine o_run rfl (e_val rfl (y_p rfl) ?_)
  refine o_run rfl (e_val rfl (y_p rfl) ?_)
  refine o_run rfl (e_val rfl (y_p rfl) ?_)
  refine w_nil ?_
  refine q_then ?_
  refine w_seq ?_
  refine w_region ?_
  refine o_run rfl (e_val rfl (y_p rfl) ?_)
  refine o_run rfl (e_callV rfl rfl (c_length0 _) rfl ?_)
  refine o_run rfl (e_val rfl (y_p rfl) ?_)
  refine o_run rfl (e_val rfl (y_p rfl) ?_)
  refine o_run rfl (e_val rfl (y_p rfl) ?_)
  refine o_run rfl (e_val rfl (y_p rfl) ?_)
  refine o_run rfl (e_val rfl (y_p rfl) ?_)
  refine o_run rfl (e_val rfl (y_p rfl) ?_)
  refine o_run rfl (e_val rfl (y_p rfl) ?_)
  refine w_nil ?_
  refine q_then ?_
  refine w_seq ?_
  refine w_seq ?_
  refine w_region ?_
  refine o_run rfl (e_val rfl (y_p rfl) ?_)
  refine o_run rfl (e_callV rfl rfl (c_Get _ _ [] teN SlAt.nil FsOk.nil (by decide)) rfl ?_)
  refine o_run rfl (e_val rfl (y_p rfl) ?_)
  refine o_run rfl (e_val rfl (y_p rfl) ?_)
  refine o_run rfl (e_val rfl (y_p rfl) ?_)
  refine o_run rfl (e_val rfl (y_p rfl) ?_)
  refine o_run rfl (e_val rfl (y_p rfl) ?_)
  refine w_nil ?_
  refine q_then ?_
  refine w_seq ?_
  refine w_region ?_
  refine o_run rfl (e_val rfl (y_p rfl) ?_)
  refine o_run rfl (e_val rfl (y_p (v := .bool false) rfl) ?_)
  refine w_nil ?_
  refine q_then ?_
  refine w_condF rfl ?_
  refine w_skip ?_
  refine q_then ?_
  refine w_seq ?_
  refine w_block ?_
  refine w_seq ?_
  refine w_region ?_
  refine o_run rfl (e_val rfl (y_p rfl) ?_)
  refine o_run rfl (e_val rfl (y_p (v := .bool false) rfl) ?_)
  refine o_run rfl (e_val rfl (y_p rfl) ?_)
  refine w_nil ?_
  refine q_then ?_
  refine w_condF rfl ?_
  refine w_seq ?_
  refine w_region ?_
  refine o_run rfl (e_val rfl (y_p rfl) ?_)
  refine o_run rfl (e_val rfl (y_p rfl) ?_)
  refine w_nil ?_
  refine q_then ?_
  refine w_condF rfl ?_
  refine w_skip ?_
  refine q_in ?_
  refine q_then ?_
  refine w_seq ?_
  refine w_region ?_
  refine o_run rfl (e_val rfl (y_p rfl) ?_)
  refine o_run rfl (e_val rfl (y_p rfl) ?_)
  refine o_run rfl (e_val rfl (y_p rfl) ?_)
  refine o_run rfl (e_val rfl (y_p rfl) ?_)
  refine w_nil ?_
  refine q_then ?_
  refine w_ret ?_
  refine r_many (rs := [.tmp 6, .tmp 7, .tmp 8]) rfl rfl ?_
  -- leaf 1
  rfl

theorem c_OfResponse0 (F : FH) (m r : List UInt8) (code : Int) : FnV Tryz.prog 46 [.agg #[int 1, int code, str r, nilV], str m] F (.tuple #[int (if bodyless m code = true then 0 else 3), int 0, int 0]) := by
  refine fn_walk Tryz.func46 (by kernel_rfl) rfl rfl rfl ?_
  intro w0
  simp only [numb, List.map_nil, List.map_cons, Nat.zero_add, Nat.reduceAdd, List.cons_append, List.nil_append]
  refine w_seq ?_
  refine w_region ?_
  refine o_run rfl (e_box rfl rfl rfl (fun b2 => ?_))
  refine o_run rfl (e_val rfl (y_p rfl) ?_)
  refine o_run rfl (e_val rfl (y_p rfl) ?_)
  refine o_run rfl (e_val rfl (y_p rfl) ?_)
  refine w_nil ?_
  refine q_then ?_
  refine w_seq ?_
  refine w_seq ?_
  refine w_region ?_
  refine o_run rfl (e_val rfl (y_p rfl) ?_)
  refine o_run rfl (e_val rfl (y_p rfl) ?_)
  refine o_run rfl (e_val rfl (y_p rfl) ?_)
  first | refine PW.wayD (t := 9) rfl rfl (fun h1 => ?_) (fun h1 => ?_) | refine PW.way (t := 9) rfl rfl (fun h1 => ?_) (fun h1 => ?_)
  · refine g_no rfl rfl rfl rfl ?_
    refine g_no rfl rfl rfl rfl ?_
    refine g_no rfl rfl rfl rfl ?_
    refine o_run rfl (e_val rfl (y_p rfl) ?_)
    refine o_run rfl (e_val rfl (y_p rfl) ?_)
    refine g_no rfl rfl rfl rfl ?_
    refine g_no rfl rfl rfl rfl ?_
    refine g_no rfl rfl rfl rfl ?_
    refine o_run rfl (e_val rfl (y_p rfl) ?_)
    refine o_run rfl (e_val rfl (y_p rfl) ?_)
    refine g_no rfl rfl rfl rfl ?_
    refine g_no rfl rfl rfl rfl ?_
    refine g_no rfl rfl rfl rfl ?_
    refine o_run rfl (e_val rfl (y_p rfl) ?_)
    refine w_nil ?_
    refine q_then ?_
    refine w_condT rfl ?_
    refine w_seq ?_
    refine w_region ?_
    refine o_run rfl (e_val rfl (y_p rfl) ?_)
    refine o_run rfl (e_val rfl (y_p rfl) ?_)
    refine o_run rfl (e_val rfl (y_p rfl) ?_)
    refine w_nil ?_
    refine q_then ?_
    refine w_ret ?_
    refine q_thenR ?_
    refine r_many (rs := [.tmp 4, .tmp 5, .tmp 6]) rfl rfl ?_
    -- leaf 1
    simp [bodyless, *]
  · refine o_yes rfl rfl rfl (e_val rfl (y_fa fo32_1 rfl) ?_)
    refine o_yes rfl rfl rfl (e_val rfl (y_ld ty3 rfl rfl) ?_)
    refine o_yes rfl rfl rfl (e_val rfl (y_p rfl) ?_)
    refine o_run rfl (e_val rfl (y_p rfl) ?_)
    refine o_run rfl (e_val rfl (y_p rfl) ?_)
    first | refine PW.wayD (t := 14) rfl rfl (fun h2 => ?_) (fun h2 => ?_) | refine PW.way (t := 14) rfl rfl (fun h2 => ?_) (fun h2 => ?_)
    · refine g_no rfl rfl rfl rfl ?_
      refine g_no rfl rfl rfl rfl ?_
      refine g_no rfl rfl rfl rfl ?_
      refine o_run rfl (e_val rfl (y_p rfl) ?_)
      refine o_run rfl (e_val rfl (y_p rfl) ?_)
      refine g_no rfl rfl rfl rfl ?_
      refine g_no rfl rfl rfl rfl ?_
      refine g_no rfl rfl rfl rfl ?_
      refine o_run rfl (e_val rfl (y_p rfl) ?_)
      refine w_nil ?_
      refine q_then ?_
      refine w_condT rfl ?_
      refine w_seq ?_
      refine w_region ?_
      refine o_run rfl (e_val rfl (y_p rfl) ?_)
      refine o_run rfl (e_val rfl (y_p rfl) ?_)
      refine o_run rfl (e_val rfl (y_p rfl) ?_)
      refine w_nil ?_
      refine q_then ?_
      refine w_ret ?_
      refine q_thenR ?_
      refine r_many (rs := [.tmp 4, .tmp 5, .tmp 6]) rfl rfl ?_
      -- leaf 2
      simp [bodyless, *]
    · refine o_yes rfl rfl rfl (e_val rfl (y_fa fo32_1 rfl) ?_)
      refine o_yes rfl rfl rfl (e_val rfl (y_ld ty3 rfl rfl) ?_)
      refine o_yes rfl rfl rfl (e_val rfl (y_p rfl) ?_)
      refine o_run rfl (e_val rfl (y_p rfl) ?_)
      refine o_run rfl (e_val rfl (y_p rfl) ?_)
      first | refine PW.wayD (t := 19) rfl rfl (fun h3 => ?_) (fun h3 => ?_) | refine PW.way (t := 19) rfl rfl (fun h3 => ?_) (fun h3 => ?_)
      · refine g_no rfl rfl rfl rfl ?_
        refine g_no rfl rfl rfl rfl ?_
        refine g_no rfl rfl rfl rfl ?_
        refine o_run rfl (e_val rfl (y_p rfl) ?_)
        refine w_nil ?_
        refine q_then ?_
        refine w_condT rfl ?_
        refine w_seq ?_
        refine w_region ?_
        refine o_run rfl (e_val rfl (y_p rfl) ?_)
        refine o_run rfl (e_val rfl (y_p rfl) ?_)
        refine o_run rfl (e_val rfl (y_p rfl) ?_)
        refine w_nil ?_
        refine q_then ?_
        refine w_ret ?_
        refine q_thenR ?_
        refine r_many (rs := [.tmp 4, .tmp 5, .tmp 6]) rfl rfl ?_
        -- leaf 3
        simp [bodyless, *]
      · refine o_yes rfl rfl rfl (e_val rfl (y_fa fo32_1 rfl) ?_)
        refine o_yes rfl rfl rfl (e_val rfl (y_ld ty3 rfl rfl) ?_)
        refine o_yes rfl rfl rfl (e_val rfl (y_p rfl) ?_)
        refine o_run rfl (e_val rfl (y_p rfl) ?_)
        refine w_nil ?_
        refine q_then ?_
        first | refine w_condD rfl (fun h4 => ?_) (fun h4 => ?_) | refine w_condN rfl (fun h4 => ?_) (fun h4 => ?_) | refine w_cond rfl (fun h4 => ?_) (fun h4 => ?_)
        · refine w_seq ?_
          refine w_region ?_
          refine o_run rfl (e_val rfl (y_p rfl) ?_)
          refine o_run rfl (e_val rfl (y_p rfl) ?_)
          refine o_run rfl (e_val rfl (y_p rfl) ?_)
          refine w_nil ?_
          refine q_then ?_
          refine w_ret ?_
          refine q_thenR ?_
          refine r_many (rs := [.tmp 4, .tmp 5, .tmp 6]) rfl rfl ?_
          -- leaf 4
          simp [bodyless, *]
        · refine w_skip ?_
          refine q_then ?_
          refine w_seq ?_
          refine w_region ?_
          refine o_run rfl (e_val rfl (y_fa fo32_0 rfl) ?_)
          refine o_run rfl (e_val rfl (y_ld ty3 rfl rfl) ?_)
          refine o_run rfl (e_val rfl (y_fa fo32_3 rfl) ?_)
          refine o_run rfl (e_val rfl (y_ld ty27 rfl rfl) ?_)
          refine o_run rfl (e_callV rfl rfl (c_framed0 _ _) rfl ?_)
          refine o_run rfl (e_val rfl (y_p rfl) ?_)
          refine o_run rfl (e_val rfl (y_p rfl) ?_)
          refine o_run rfl (e_val rfl (y_p rfl) ?_)
          refine o_run rfl (e_val rfl (y_p rfl) ?_)
          refine o_run rfl (e_val rfl (y_p rfl) ?_)
          refine o_run rfl (e_val rfl (y_p rfl) ?_)
          refine w_nil ?_
          refine q_then ?_
          refine w_ret ?_
          refine r_many (rs := [.tmp 4, .tmp 5, .tmp 6]) rfl rfl ?_
          -- leaf 5
          simp [bodyless, *]

theorem c_WriteResponse (F : FH) (hG : Glob F) (minor code : Int) (reason body m : List UInt8) (vf vb : Value) (l : List Fld) (hm : -9223372036854775808 ≤ minor ∧ minor ≤ 9223372036854775807) (hc : -9223372036854775808 ≤ code ∧ code ≤ 9223372036854775807) (hr : reason.length ≤ 1000000000) (hf : SlAt F encF vf l) (hl : FsW l) (hb : SlAt F encB vb body) (hbl : body.length ≤ 1000000000) : Fn Tryz.prog 32 [.agg #[int minor, int code, str reason, vf], vb, str m] F [] (fun r F' Γ' => ∃ v, r = .tuple #[v, int (respS minor code reason l body m).2] ∧ SlAt F' encB v (respS minor code reason l body m).1 ∧ Γ' = []) := by
  have hst := statusS_len minor code reason
  refine fn_walk Tryz.func32 (by kernel_rfl) rfl rfl rfl ?_
  intro w0
  simp only [numb, List.map_nil, List.map_cons, Nat.zero_add, Nat.reduceAdd, List.cons_append, List.nil_append]
  refine w_seq ?_
  refine w_region ?_
  refine o_run rfl (e_box rfl rfl rfl (fun b3 => ?_))
  refine o_run rfl (e_val rfl (y_p rfl) ?_)
  refine o_run rfl (e_val rfl (y_p rfl) ?_)
  refine w_nil ?_
  refine q_then ?_
  refine w_seq ?_
  refine w_region ?_
  refine o_run rfl (e_val rfl (y_fa fo32_0 rfl) ?_)
  refine o_run rfl (e_val rfl (y_ld ty3 rfl rfl) ?_)
  refine o_run rfl (e_val rfl (y_fa fo32_1 rfl) ?_)
  refine o_run rfl (e_val rfl (y_ld ty3 rfl rfl) ?_)
  refine o_run rfl (e_val rfl (y_fa fo32_2 rfl) ?_)
  refine o_run rfl (e_val rfl (y_ld ty9 rfl rfl) ?_)
  refine o_run rfl (e_callV rfl rfl (c_StatusLine _ _ _ (by omega) (by omega) (by omega) _ hG) rfl ?_)
  refine o_run rfl (e_val rfl (y_p rfl) ?_)
  refine o_run rfl (e_val rfl (y_p rfl) ?_)
  refine o_run rfl (e_val rfl (y_p rfl) ?_)
  refine o_run rfl (e_val rfl (y_p rfl) ?_)
  refine o_run rfl (e_val rfl (y_p rfl) ?_)
  refine w_nil ?_
  refine q_then ?_
  refine w_seq ?_
  refine w_seq ?_
  refine w_region ?_
  refine o_run rfl (e_val rfl (y_p rfl) ?_)
  refine o_run rfl (e_val rfl (y_p rfl) ?_)
  refine w_nil ?_
  refine q_then ?_
  first | refine w_condD rfl (fun h1 => ?_) (fun h1 => ?_) | refine w_condN rfl (fun h1 => ?_) (fun h1 => ?_) | refine w_cond rfl (fun h1 => ?_) (fun h1 => ?_)
  · refine w_seq ?_
    refine w_region ?_
    refine o_run rfl (e_val rfl (y_p rfl) ?_)
    refine o_run rfl (e_val rfl (y_p rfl) ?_)
    refine o_run rfl (e_val rfl (y_p rfl) ?_)
    refine w_nil ?_
    refine q_then ?_
    refine w_ret ?_
    refine q_thenR ?_
    refine PW.clear ?_
    refine r_many (rs := [.tmp 6, .tmp 7]) rfl rfl ?_
    -- leaf 1
    exact two_eq (q := ([], (statusS minor code reason).2)) (if_neg h1) SlAt.nil
  · refine w_skip ?_
    refine q_then ?_
    refine w_seq ?_
    refine w_region ?_
    refine o_run rfl (e_alloc ty98 rfl rfl (fun b10 => ?_))
    refine w_nil ?_
    refine q_then ?_
    refine w_seq ?_
    refine w_region ?_
    refine o_run rfl (e_val rfl (y_fa fo32_1 rfl) ?_)
    refine o_run rfl (e_val rfl (y_ld ty3 rfl rfl) ?_)
    refine o_run rfl (e_val rfl (y_build pl32 rfl rfl) ?_)
    refine o_run rfl (e_val rfl (y_p rfl) ?_)
    refine o_run rfl (e_callV rfl rfl (c_OfResponse0 _ _ _ _) rfl ?_)
    refine o_run rfl (e_val rfl (y_p rfl) ?_)
    refine o_run rfl (e_val rfl (y_p rfl) ?_)
    refine o_run rfl (e_val rfl (y_p rfl) ?_)
    refine o_run rfl (e_val rfl (y_p rfl) ?_)
    refine o_run rfl (e_val rfl (y_fa fo98_0 rfl) ?_)
    refine o_run rfl (e_st ty3 rfl rfl rfl rfl rfl rfl ?_)
    refine o_run rfl (e_val rfl (y_fa fo98_1 rfl) ?_)
    refine o_run rfl (e_st ty3 rfl rfl rfl rfl rfl rfl ?_)
    refine w_nil ?_
    refine q_then ?_
    refine w_seq ?_
    refine w_seq ?_
    refine w_region ?_
    refine o_run rfl (e_val rfl (y_ld ty98 rfl rfl) ?_)
    refine o_run rfl (e_val rfl (y_build pl98 rfl rfl) ?_)
    refine o_run rfl (e_val rfl (y_eq2 ty98.u ty3 ty3 (by decide) (by kernel_rfl) (by kernel_rfl) rfl rfl) ?_)
    refine w_nil ?_
    refine q_then ?_
    first | refine w_condD rfl (fun h2 => ?_) (fun h2 => ?_) | refine w_condN rfl (fun h2 => ?_) (fun h2 => ?_) | refine w_cond rfl (fun h2 => ?_) (fun h2 => ?_)
    · refine w_seq ?_
      refine w_region ?_
      refine o_run rfl (e_val rfl (y_p rfl) ?_)
      refine o_run rfl (e_val rfl (y_fa fo32_3 rfl) ?_)
      refine o_run rfl (e_val rfl (y_ld ty27 rfl rfl) ?_)
      refine o_run rfl (e_call rfl rfl (c_write _ hG (statusS minor code reason).1 [] vf nilV l false hf hl SlAt.nil (by omega) (by simp)) (List.Perm.refl _) rfl (fun r1 F1 Γ1 hR1 hF1 => ?_))
      obtain ⟨v1, rfl, hS1, rfl⟩ := hR1
      refine o_run rfl (e_val rfl (y_p rfl) ?_)
      refine o_run rfl (e_val rfl (y_p rfl) ?_)
      refine o_run rfl (e_val rfl (y_p rfl) ?_)
      refine o_run rfl (e_val rfl (y_p rfl) ?_)
      refine w_nil ?_
      refine q_then ?_
      refine w_ret ?_
      refine q_thenR ?_
      refine PW.clear ?_
      refine r_many (rs := [.tmp 6, .tmp 7]) rfl rfl ?_
      -- leaf 2
      have hb2 : bodyless m code = true := by cases hbb : bodyless m code <;> simp [hbb] at h2 ⊢
      exact two_eq (by simp only [respS]; rw [if_pos (by omega), if_pos hb2]) hS1
    · refine w_skip ?_
      refine q_then ?_
      refine w_seq ?_
      refine w_region ?_
      refine o_run rfl (e_val rfl (y_p rfl) ?_)
      refine o_run rfl (e_val rfl (y_fa fo32_3 rfl) ?_)
      refine o_run rfl (e_val rfl (y_ld ty27 rfl rfl) ?_)
      refine o_run rfl (e_call rfl rfl (c_ownM _ vf l hf hl) (List.Perm.refl _) rfl (fun r1 F1 Γ1 hR1 hF1 => ?_))
      obtain ⟨hS1, rfl⟩ := hR1
      refine o_run rfl (e_val rfl (y_p rfl) ?_)
      refine o_run rfl (e_call rfl rfl (c_write _ (hG.mono hF1) (statusS minor code reason).1 body r1 vb (ownL l) true hS1 (delL_W (delL_W hl _) _) (hb.mono hF1) (by omega) (by omega)) (List.Perm.refl _) rfl (fun r2 F2 Γ2 hR2 hF2 => ?_))
      obtain ⟨v2, rfl, hS2, rfl⟩ := hR2
      refine o_run rfl (e_val rfl (y_p rfl) ?_)
      refine o_run rfl (e_val rfl (y_p rfl) ?_)
      refine o_run rfl (e_val rfl (y_p rfl) ?_)
      refine o_run rfl (e_val rfl (y_p rfl) ?_)
      refine w_nil ?_
      refine q_then ?_
      refine w_ret ?_
      refine PW.clear ?_
      refine r_many (rs := [.tmp 6, .tmp 7]) rfl rfl ?_
      -- leaf 3
      have hb2 : ¬ bodyless m code = true := fun hbb => h2 (by simp [hbb])
      exact two_eq (by simp only [respS]; rw [if_pos (by omega), if_neg hb2]) hS2

end Go.SL
