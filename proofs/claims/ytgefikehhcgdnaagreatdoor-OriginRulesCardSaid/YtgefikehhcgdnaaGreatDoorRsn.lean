import Derived.Test.YtgefikehhcgdnaaGreatDoorResp

/- What codes are called: contract. No condition. -/
namespace Go.SL
open Go.Proofs
set_option maxRecDepth 10000

def tabR : List (Int × List UInt8) := [(200, [79, 75]), (206, [80, 97, 114, 116, 105, 97, 108, 32, 67, 111, 110, 116, 101, 110, 116]), (304, [78, 111, 116, 32, 77, 111, 100, 105, 102, 105, 101, 100]), (400, [66, 97, 100, 32, 82, 101, 113, 117, 101, 115, 116]), (404, [78, 111, 116, 32, 70, 111, 117, 110, 100]), (413, [67, 111, 110, 116, 101, 110, 116, 32, 84, 111, 111, 32, 76, 97, 114, 103, 101]), (416, [82, 97, 110, 103, 101, 32, 78, 111, 116, 32, 83, 97, 116, 105, 115, 102, 105, 97, 98, 108, 101]), (431, [82, 101, 113, 117, 101, 115, 116, 32, 72, 101, 97, 100, 101, 114, 32, 70, 105, 101, 108, 100, 115, 32, 84, 111, 111, 32, 76, 97, 114, 103, 101]), (502, [66, 97, 100, 32, 71, 97, 116, 101, 119, 97, 121]), (504, [71, 97, 116, 101, 119, 97, 121, 32, 84, 105, 109, 101, 111, 117, 116])]
abbrev encN (x : Int × List UInt8) : List Value := [int x.1, str x.2]
def reasonL (code : Int) : List UInt8 := ((tabR.find? fun x => decide (x.1 = code)).map (·.2)).getD [79, 116, 104, 101, 114]
theorem reasonL_at {code : Int} {k : Nat} (hk : k < tabR.length) (h : (tabR.find? fun x => decide (x.1 = code)) = (tabR.drop k).find? fun x => decide (x.1 = code)) : if tabR[k].1 = code then reasonL code = tabR[k].2 else (tabR.find? fun x => decide (x.1 = code)) = (tabR.drop (k + 1)).find? fun x => decide (x.1 = code) := by
  rw [List.drop_eq_getElem_cons hk, List.find?_cons] at h
  by_cases hc : tabR[k].1 = code
  · rw [if_pos hc]
    simp only [hc, decide_true] at h
    simp [reasonL, h]
  · rw [if_neg hc]
    simpa [hc] using h
theorem reasonL_len (code : Int) : (reasonL code).length ≤ 31 := by
  unfold reasonL
  cases h : tabR.find? fun x => decide (x.1 = code) with
  | none => simp
  | some x =>
    have hm := List.mem_of_find?_eq_some h
    simp only [Option.map_some, Option.getD_some]
    have : ∀ y ∈ tabR, y.2.length ≤ 31 := by decide
    exact this x hm

theorem c_Reason (F : FH) (code : Int) : FnV Tryz.prog 13 [int code] F (str (reasonL code)) := by
  refine fn_walk Tryz.func13 (by kernel_rfl) rfl rfl rfl ?_
  intro w0
  simp only [numb, List.map_nil, List.map_cons, Nat.zero_add, Nat.reduceAdd, List.cons_append, List.nil_append]
  refine w_seq ?_
  refine w_region ?_
  refine o_run rfl (e_val rfl (y_p rfl) ?_)
  refine w_nil ?_
  refine q_then ?_
  refine w_seq ?_
  refine w_seq ?_
  refine w_region ?_
  refine o_run rfl (e_val rfl (y_build pl89 rfl rfl) ?_)
  refine o_run rfl (e_val rfl (y_build pl89 rfl rfl) ?_)
  refine o_run rfl (e_val rfl (y_build pl89 rfl rfl) ?_)
  refine o_run rfl (e_val rfl (y_build pl89 rfl rfl) ?_)
  refine o_run rfl (e_val rfl (y_build pl89 rfl rfl) ?_)
  refine o_run rfl (e_val rfl (y_build pl89 rfl rfl) ?_)
  refine o_run rfl (e_val rfl (y_build pl89 rfl rfl) ?_)
  refine o_run rfl (e_val rfl (y_build pl89 rfl rfl) ?_)
  refine o_run rfl (e_val rfl (y_build pl89 rfl rfl) ?_)
  refine o_run rfl (e_val rfl (y_build pl89 rfl rfl) ?_)
  refine o_run rfl (e_val rfl (y_buildA ty90 ty89 rfl rfl rfl) ?_)
  refine o_run rfl (e_val rfl (y_p rfl) ?_)
  refine w_nil ?_
  refine q_then ?_
  refine w_block ?_
  refine w_loop (T := Nat) (fun k => ([(0, int code), (15, .agg (List.toArray (tabR.flatMap encN))), (16, int k)], F, [])) (fun k => k ≤ 10 ∧ (tabR.find? fun x => decide (x.1 = code)) = (tabR.drop k).find? fun x => decide (x.1 = code)) (fun k => 10 - k) 0 (⟨by omega, rfl⟩) (by repeat (first | exact trivial | refine ⟨rfl, ?_⟩)) rfl rfl ?_
  rintro k ⟨hk, hf⟩
  dsimp only at hk hf ⊢
  refine w_seq ?_
  refine w_region ?_
  refine o_run rfl (e_val rfl (y_p rfl) ?_)
  refine w_nil ?_
  refine q_then ?_
  refine w_seq ?_
  first | refine w_condD rfl (fun h1 => ?_) (fun h1 => ?_) | refine w_condN rfl (fun h1 => ?_) (fun h1 => ?_) | refine w_cond rfl (fun h1 => ?_) (fun h1 => ?_)
  · refine w_skip ?_
    refine q_then ?_
    refine w_seq ?_
    refine w_block ?_
    refine w_seq ?_
    refine w_region ?_
    have hk' : k < tabR.length := by simp only [tabR, List.length_cons, List.length_nil]; omega
    have hat := reasonL_at hk' hf
    refine o_run rfl (e_val rfl (y_ixA ty90 ty89 rfl rfl (by omega) (ld_fm (enc := encN) (fun _ => rfl) tabR hk')) ?_)
    refine o_run rfl (e_alloc ty89 rfl rfl (fun bk => ?_))
    refine o_run rfl (e_st ty89 rfl rfl rfl rfl rfl rfl ?_)
    refine w_nil ?_
    refine q_then ?_
    refine w_seq ?_
    refine w_region ?_
    refine o_run rfl (e_val rfl (y_fa fo89_0 rfl) ?_)
    refine o_run rfl (e_val rfl (y_ld ty3 rfl rfl) ?_)
    refine o_run rfl (e_val rfl (y_p rfl) ?_)
    refine o_run rfl (e_val rfl (y_p rfl) ?_)
    refine w_nil ?_
    refine q_then ?_
    first | refine w_condD rfl (fun h2 => ?_) (fun h2 => ?_) | refine w_condN rfl (fun h2 => ?_) (fun h2 => ?_) | refine w_cond rfl (fun h2 => ?_) (fun h2 => ?_)
    · refine w_seq ?_
      refine w_region ?_
      refine o_run rfl (e_val rfl (y_fa fo89_1 rfl) ?_)
      refine o_run rfl (e_val rfl (y_ld ty9 rfl rfl) ?_)
      refine o_run rfl (e_val rfl (y_p rfl) ?_)
      refine w_nil ?_
      refine q_then ?_
      refine w_ret ?_
      refine q_inR ?_
      refine q_thenR ?_
      refine q_thenR ?_
      refine q_inR ?_
      refine q_thenR ?_
      refine PW.clear ?_
      refine r_one rfl rfl ?_
      -- leaf 1
      rw [if_pos (by simpa using h2)] at hat
      rw [hat]
    · refine w_skip ?_
      refine q_in ?_
      refine q_then ?_
      refine w_region ?_
      refine o_run rfl (e_val rfl (y_addI rfl rfl (by omega)) ?_)
      refine o_run rfl (e_val rfl (y_p rfl) ?_)
      refine w_nil ?_
      rw [if_neg (by simpa using h2)] at hat
      refine PW.clear ?_
      refine q_round (k+1) ⟨by omega, hat⟩ (by omega) ⟨rfl, rfl, rfl, trivial⟩ rfl rfl
  · refine w_exit ?_
    refine q_thenE ?_
    refine q_thenE ?_
    refine q_inE ?_
    refine q_then ?_
    refine w_seq ?_
    refine w_region ?_
    refine o_run rfl (e_val rfl (y_p rfl) ?_)
    refine w_nil ?_
    refine q_then ?_
    refine w_ret ?_
    refine PW.clear ?_
    refine r_one rfl rfl ?_
    -- leaf 2
    obtain rfl : k = 10 := by omega
    simp only [reasonL, hf]
    rfl


def I64 (n : Int) : Prop := -9223372036854775808 ≤ n ∧ n ≤ 9223372036854775807
abbrev T64 : TypeId := 57
def OwnF (l : List Fld) (v : Value) (Γo : Blks) : Prop := Own T64 2 (l.flatMap encF) l.length v Γo
theorem Own.lit0 (T : TypeId) (sz b : Nat) : Own T sz [] 0 (.slice (some ⟨b, 0, none⟩) 0 0) [(b, .cells (List.toArray []) T (0, 0))] := ⟨by simp, .inr ⟨b, 0, [], (0, 0), rfl, rfl, by simp, Nat.le_refl 0, noFz0⟩⟩
theorem flat_F (l : List Fld) : flatL (l.flatMap encF) = true := by
  induction l with
  | nil => rfl
  | cons x l ih => simpa [flatL, one1] using ih
theorem Own.zero {T : TypeId} {sz k : Nat} {cs : List Value} {v : Value} {Γo : Blks} (h : Own T sz ([] ++ cs) (0 + k) v Γo) : Own T sz cs k v Γo := by simpa using h
abbrev T3 : TypeId := 3
def getN : List UInt8 := [71, 69, 84]

end Go.SL
