import Derived.Test.YtgefikehhcgdnaaGreatDoorCuts
import Derived.Test.YtgefikehhcgdnaaGreatDoorChg

/- The law OriginRules: its walk. No condition. -/
namespace Go.SL
open Go.Proofs
set_option maxRecDepth 10000
theorem u8_and (c : UInt8) (k : UInt8) : ibits .and .u8 (c.toNat : Int) (k.toNat : Int) = ((c &&& k).toNat : Int) := by
  have h1 : BitVec.ofInt 8 (c.toNat : Int) = c.toBitVec := by
    apply BitVec.eq_of_toNat_eq; simp [BitVec.toNat_ofInt]
  have h2 : BitVec.ofInt 8 (k.toNat : Int) = k.toBitVec := by
    apply BitVec.eq_of_toNat_eq; simp [BitVec.toNat_ofInt]
  have h3 : ibits .and .u8 (c.toNat : Int) (k.toNat : Int) = IntKind.u8.wrap (BitVec.ofInt 8 (c.toNat : Int) &&& BitVec.ofInt 8 (k.toNat : Int)).toNat := rfl
  rw [h3, h1, h2]
  have h4 : (c.toBitVec &&& k.toBitVec).toNat = (c &&& k).toNat := rfl
  rw [h4]
  have := (c &&& k).toNat_lt
  generalize (c &&& k).toNat = m at *
  unfold IntKind.wrap
  simp only [IntKind.bits, IntKind.signed, Bool.false_and, Bool.false_eq_true, if_false]
  omega
def abLt (c : UInt8) : UInt8 := 97 + (c &&& 1)
theorem and1 (c : UInt8) : (c &&& 1).toNat ≤ 1 := by rw [UInt8.toNat_and]; exact Nat.and_le_right
theorem abLt_nat (c : UInt8) : (abLt c).toNat = 97 + (c &&& 1).toNat := by
  have := and1 c
  unfold abLt
  rw [UInt8.toNat_add]
  have : (97 : UInt8).toNat = 97 := rfl
  omega
theorem abLt_int (c : UInt8) : IntKind.wrap .u8 (97 + ibits .and .u8 (c.toNat : Int) 1) = ((abLt c).toNat : Int) := by
  have h := u8_and c 1
  have h1 : ((1 : UInt8).toNat : Int) = 1 := rfl
  rw [h1] at h
  rw [h, abLt_nat]
  have := and1 c
  unfold IntKind.wrap
  simp only [IntKind.bits, IntKind.signed, Bool.false_and, Bool.false_eq_true, if_false]
  omega
def pathL (path : List UInt8) (k : Nat) : List UInt8 := 47 :: (path.take k).map abLt
theorem pathL_len (path : List UInt8) (k : Nat) : (pathL path k).length ≤ k + 1 := by simp [pathL]; omega
theorem pathL_snoc {path : List UInt8} {k : Nat} (h : k < path.length) : pathL path (k + 1) = pathL path k ++ [abLt path[k]] := by
  unfold pathL
  rw [List.take_succ_eq_append_getElem h, List.map_append]
  rfl
theorem pathL_target (path : List UInt8) (k : Nat) : isTargetB (pathL path k) = true := by
  unfold isTargetB pathL
  rw [Bool.and_eq_true]
  refine ⟨by simp, ?_⟩
  rw [List.all_cons, Bool.and_eq_true]
  refine ⟨by decide, ?_⟩
  rw [List.all_eq_true]
  intro x hx
  obtain ⟨c, -, rfl⟩ := List.mem_map.1 hx
  have h1 := abLt_nat c
  have h2 := and1 c
  exact decide_eq_true (by omega)
theorem bt_path (path : List UInt8) (k : Nat) : bt (pathL path k) 0 = 47 := rfl
def preL : List (List UInt8) := [[47, 97, 98], [47, 97], [47, 98], [47, 97, 97]]
def ruR (i : Nat) : Rl := ⟨preL.getD i [], 200, [], preL.getD i [], i, -7⟩
def rulesL : List Rl := [ruR 0, ruR 1, ruR 2, ruR 3]
theorem preL_le : ∀ p ∈ preL, p.length ≤ 3 := by decide
theorem getD_le (i : Nat) : (preL.getD i []).length ≤ 3 := by
  rcases Nat.lt_or_ge i preL.length with h | h
  · rw [List.getD_eq_getElem?_getD, List.getElem?_eq_getElem h]; exact preL_le _ (List.getElem_mem h)
  · rw [List.getD_eq_getElem?_getD, List.getElem?_eq_none h]; simp
theorem may_ok {r : Rl} (hc : r.code = 200) (hf : r.fs = []) (hb : r.body.length ≤ 1000) (hw : 0 ≤ r.wait ∧ r.wait ≤ 1000) : mayB r = true := by
  obtain ⟨pre, code, fs, body, wait, cut⟩ := r
  dsimp only at hc hf hb hw
  subst hc hf
  unfold mayB
  refine decide_eq_true ⟨⟨show (200 : Int) ≤ 200 by decide, show (200 : Int) ≤ 599 by decide, hw.1, hw.2, ?_⟩, ?_⟩
  · show body.length ≤ 1048576
    omega
  · show (respS 1 200 (reasonL 200) [] body getN).2 = 0
    rw [resp_ok hb]
theorem ruR_ok {i : Nat} (hi : i < 4) : RlOk (ruR i) :=
  ⟨by have := getD_le i; show (preL.getD i []).length ≤ _; omega, by show I64 200; unfold I64; omega, FsW.nil, by have := getD_le i; show (preL.getD i []).length ≤ _; omega, by show I64 (i : Int); unfold I64; omega, by show I64 (-7); unfold I64; omega⟩
theorem ruR_may {i : Nat} (hi : i < 4) : mayB (ruR i) = true := may_ok rfl rfl (by have := getD_le i; show (preL.getD i []).length ≤ _; omega) (by show 0 ≤ (i : Int) ∧ (i : Int) ≤ 1000; omega)
theorem rules_mem {r : Rl} (h : r ∈ rulesL) : ∃ i, i < 4 ∧ r = ruR i := by
  simp only [rulesL, List.mem_cons, List.not_mem_nil, or_false] at h
  rcases h with rfl | rfl | rfl | rfl
  · exact ⟨0, by decide, rfl⟩
  · exact ⟨1, by decide, rfl⟩
  · exact ⟨2, by decide, rfl⟩
  · exact ⟨3, by decide, rfl⟩
theorem rules_at {i : Nat} (h : i < 4) : rulesL[i]'h = ruR i := by
  match i, h with
  | 0, _ => rfl
  | 1, _ => rfl
  | 2, _ => rfl
  | 3, _ => rfl
theorem rules_new : newB rulesL = true := by
  unfold newB
  rw [Bool.and_eq_true, List.all_eq_true]
  refine ⟨by decide, fun r hr => ?_⟩
  obtain ⟨i, hi, rfl⟩ := rules_mem hr
  exact ruR_may hi
theorem findK_pre {path : List UInt8} : ∀ {a b : List Rl} {k : Nat}, a.map Rl.pre = b.map Rl.pre → findK path a k = findK path b k
  | [], [], _, _ => rfl
  | [], _ :: _, _, h => by simp at h
  | _ :: _, [], _, h => by simp at h
  | x :: a, y :: b, k, h => by
    simp only [List.map_cons, List.cons.injEq] at h
    simp only [findK, h.1, findK_pre (k := k + 1) h.2]
theorem findK_neg {path : List UInt8} : ∀ {a : List Rl} {k : Nat}, findK path a k < 0 → findK path a k = -1
  | [], _, _ => rfl
  | x :: a, k, h => by
    simp only [findK] at h ⊢
    split
    · rename_i h1
      rw [if_pos h1] at h
      omega
    · rename_i h1
      rw [if_neg h1] at h
      exact findK_neg h
def wantI (p : List UInt8) (i : Nat) : Int := findK p (rulesL.drop i) i
theorem wantI_step {p : List UInt8} {i : Nat} (h : i < 4) : wantI p i = if Lib.hasPrefix p (preL.getD i []) = true then (i : Int) else wantI p (i + 1) := by
  unfold wantI
  have : rulesL.drop i = ruR i :: rulesL.drop (i + 1) := by rw [← rules_at h]; exact List.drop_eq_getElem_cons h
  rw [this]
  rfl
theorem set_pre (l : List Rl) (k : Nat) (body : List UInt8) : (l.set k (setBody (l.getD k ⟨[], 0, [], [], 0, 0⟩) body)).map Rl.pre = l.map Rl.pre := by
  apply List.ext_getElem
  · simp
  · intro i h1 h2
    simp only [List.length_map, List.length_set] at h1
    simp only [List.getElem_map, List.getElem_set]
    split
    · rename_i hk
      subst hk
      simp [setBody, List.getD, h1]
    · rfl
theorem mod4 (k : Int) : (-3 ≤ k.tmod 4 ∧ k.tmod 4 ≤ 3) ∧ 0 ≤ (k.tmod 4 + 4).tmod 4 ∧ (k.tmod 4 + 4).tmod 4 ≤ 3 := by
  have h1 := Int.tmod_lt_of_pos k (show (0 : Int) < 4 by decide)
  have h2 := Int.lt_tmod_of_pos k (show (0 : Int) < 4 by decide)
  have h3 : (k.tmod 4 + 4).tmod 4 = (k.tmod 4 + 4) % 4 := Int.tmod_eq_emod_of_nonneg (by omega)
  rw [h3]
  omega

theorem flat_reply {a b d : Int} {s : List UInt8} {fv bv : Value} {w x : Int} (h : one1 fv = true) (h' : one1 bv = true) : flatL (replyC a b d s fv bv w x) = true := by
  have e : flatL (replyC a b d s fv bv w x) = (true && (true && (true && (true && (true && (one1 fv && (one1 bv && (true && (true && true))))))))) := rfl
  rw [e, h, h']
  rfl
theorem pfx_iff (p q : List UInt8) : Lib.hasPrefix p q = true ↔ q.length ≤ p.length ∧ p.take q.length = q := by
  unfold Lib.hasPrefix
  rw [List.isPrefixOf_iff_prefix, List.prefix_iff_eq_take]
  constructor
  · intro h
    have := congrArg List.length h
    rw [List.length_take] at this
    exact ⟨by omega, h.symm⟩
  · exact fun h => h.2.symm
abbrev encS1 (s : List UInt8) : List Value := [str s]
theorem set_ok {k : Nat} (hk : k < 4) {body : List UInt8} (hb : body.length ≤ 1000) : ∀ r ∈ rulesL.set k (setBody (rulesL.getD k ⟨[], 0, [], [], 0, 0⟩) body), RlOk r ∧ r.fs = [] := by
  intro r hr
  rcases List.mem_or_eq_of_mem_set hr with h | h
  · obtain ⟨i, hi, rfl⟩ := rules_mem h
    exact ⟨ruR_ok hi, rfl⟩
  · subst h
    have h1 : rulesL.getD k ⟨[], 0, [], [], 0, 0⟩ = ruR k := by
      rw [List.getD_eq_getElem?_getD, List.getElem?_eq_getElem (show k < rulesL.length from hk)]; exact rules_at hk
    rw [h1]
    have h2 := ruR_ok hk
    exact ⟨⟨h2.pre, h2.code, h2.fs, by show body.length ≤ _; omega, h2.wait, h2.cut⟩, rfl⟩
def gens4 (k : Nat) : List Int := (List.replicate 4 (0 : Int)).set k ((List.replicate 4 (0 : Int)).getD k 0 + 1)
theorem gens_ok (k : Nat) : ∀ g ∈ gens4 k, 0 ≤ g ∧ g ≤ 1000000000 := by
  intro g hg
  have hz : (List.replicate 4 (0 : Int)).getD k 0 = 0 := by
    rw [List.getD_eq_getElem?_getD, List.getElem?_replicate]; split <;> rfl
  unfold gens4 at hg
  rw [hz] at hg
  rcases List.mem_or_eq_of_mem_set hg with h | h
  · have := List.eq_of_mem_replicate h; omega
  · omega
abbrev rules2 (k : Nat) (body : List UInt8) : List Rl := rulesL.set k (setBody (rulesL.getD k ⟨[], 0, [], [], 0, 0⟩) body)
/-- What an answer is, in one sentence. -/
theorem ans_sum {F : FH} {p bx : List UInt8} {k : Nat} (hk : k < 4) {r : Value} (h : if findI p true (rules2 k bx) < 0 then r = .agg (List.toArray (replyC (findI p true (rules2 k bx)) 0 404 (reasonL 404) nilV nilV 0 (-1))) else ∃ (j : Nat) (hj : j < (rules2 k bx).length) (fv bv : Value), findI p true (rules2 k bx) = (j : Int) ∧ r = .agg (List.toArray (replyC j ((gens4 k).getD j 0) (rules2 k bx)[j].code (reasonL (rules2 k bx)[j].code) fv bv (rules2 k bx)[j].wait (max (-1) (rules2 k bx)[j].cut))) ∧ SlAt F encF fv [] ∧ SlAt F encB bv (rules2 k bx)[j].body) :
    ∃ (ge co : Int) (re : List UInt8) (fv : Value) (ab : Option Addr) (cb : Nat) (bl : List UInt8) (wa cu : Int), r = .agg (List.toArray (replyC (wantI p 0) ge co re fv (.slice ab bl.length cb) wa cu)) ∧ SlAt F encB (.slice ab bl.length cb) bl ∧ one1 fv = true ∧
      (wantI p 0 < 0 → wantI p 0 = -1 ∧ co = 404 ∧ bl = []) ∧ (wantI p 0 = (k : Int) → ge = 1 ∧ bl = bx) ∧ (¬ wantI p 0 < 0 → wantI p 0 ≠ (k : Int) → ∃ j : Nat, j < 4 ∧ wantI p 0 = (j : Int) ∧ ge = 0 ∧ bl = preL.getD j [] ∧ wa = (j : Int) ∧ cu = -1) := by
  have hfi : findI p true (rules2 k bx) = wantI p 0 := by
    unfold findI wantI
    rw [if_pos rfl]
    exact findK_pre (set_pre _ _ _)
  rw [hfi] at h
  by_cases hw : wantI p 0 < 0
  · rw [if_pos hw] at h
    exact ⟨0, 404, reasonL 404, nilV, none, 0, [], 0, -1, h, SlAt.nil, rfl, fun _ => ⟨findK_neg hw, rfl, rfl⟩, fun he => by omega, fun hn => absurd hw hn⟩
  · rw [if_neg hw] at h
    obtain ⟨j, hj, fv, bv, hwj, rfl, hf, hb⟩ := h
    obtain ⟨ab, cb, rfl, -⟩ := hb.at
    obtain ⟨af, cf, rfl, -⟩ := hf.at
    have hj4 : j < 4 := by simpa [rules2, rulesL] using hj
    have hz : ∀ i, (List.replicate 4 (0 : Int)).getD i 0 = 0 := fun i => by
      rw [List.getD_eq_getElem?_getD, List.getElem?_replicate]; split <;> rfl
    refine ⟨_, _, _, _, ab, cb, _, _, _, by rw [hwj], hb, rfl, fun hn => absurd hn hw, fun he => ?_, fun _ hne => ⟨j, hj4, hwj, ?_⟩⟩
    · obtain rfl : j = k := by omega
      refine ⟨?_, ?_⟩
      · simp only [gens4, hz]
        rw [List.getD_eq_getElem?_getD, List.getElem?_set_self (by simpa using hk)]
        rfl
      · simp [rules2, setBody]
    · have hjk : k ≠ j := fun he => hne (by omega)
      have hrj : (rules2 k bx)[j] = ruR j := by
        simp only [rules2]
        rw [List.getElem_set_ne hjk]
        exact rules_at hj4
      rw [hrj]
      refine ⟨?_, rfl, rfl, rfl⟩
      simp only [gens4]
      rw [List.getD_eq_getElem?_getD, List.getElem?_set_ne hjk, ← List.getD_eq_getElem?_getD, hz]
theorem out_change {rs : List Rl} {body : List UInt8} : chB rs 4 body = true → rs.length ≤ 4 → False := by
  intro h hl
  unfold chB at h
  rw [dif_neg (by omega)] at h
  cases h
theorem ch_ok {k : Int} {body : List UInt8} (h : 0 ≤ k ∧ k ≤ 3) (hb : body.length ≤ 1000) : chB rulesL k body = true := by
  obtain ⟨j, rfl⟩ : ∃ j : Nat, k = (j : Int) := ⟨k.toNat, by omega⟩
  have hj : j < 4 := by omega
  have hr : rulesL[j]'(show j < rulesL.length from hj) = ruR j := rules_at hj
  rw [chB_at (show j < rulesL.length from hj), hr]
  exact may_ok rfl rfl hb (by show 0 ≤ (j : Int) ∧ (j : Int) ≤ 1000; omega)

set_option maxHeartbeats 4000000 in
theorem c_OriginRules (F : FH) (hG : Glob F) (v0 v2 : Value) (path body : List UInt8) (k : Int) (h0 : SlAt F encB v0 path) (hb : SlAt F encB v2 body) : Fn Tryz.prog 4 [v0, int k, v2] F [] (fun r _ _ => r = .bool true) := by
  obtain ⟨a0, cap0, rfl, hcase0⟩ := h0.at
  obtain ⟨a2, cap2, rfl, -⟩ := hb.at
  have hcap2 := hb.cap
  have hm4 := mod4 k
  refine fn_walk Tryz.func4 (by kernel_rfl) rfl rfl rfl ?_
  intro w0
  simp only [numb, List.map_nil, List.map_cons, Nat.zero_add, Nat.reduceAdd, List.cons_append, List.nil_append]
  refine w_seq ?_
  refine w_region ?_
  refine o_run rfl (e_val rfl (y_p rfl) ?_)
  refine w_nil ?_
  refine q_then ?_
  refine w_seq ?_
  refine w_seq ?_
  refine w_region ?_
  refine o_run rfl (e_val rfl (y_p rfl) ?_)
  refine o_run rfl (e_val rfl (y_lenL ty22 rfl) ?_)
  refine o_run rfl (e_val rfl (y_p rfl) ?_)
  refine w_nil ?_
  refine q_then ?_
  refine w_join (T := Option Addr × Nat × List UInt8) (fun x => ([(0, .slice a0 path.length cap0), (1, int k), (2, .slice x.1 x.2.2.length x.2.1)], F, [])) (fun x => SlAt F encB (.slice x.1 x.2.2.length x.2.1) x.2.2 ∧ x.2.2.length ≤ 500) ?_ ?_
  · first | refine w_condD rfl (fun h1 => ?_) (fun h1 => ?_) | refine w_condN rfl (fun h1 => ?_) (fun h1 => ?_) | refine w_cond rfl (fun h1 => ?_) (fun h1 => ?_)
    · refine w_region ?_
      refine o_run rfl (e_val rfl (y_p rfl) ?_)
      refine o_run rfl (e_val rfl (y_slc ty22 ty5 rfl rfl rfl (by omega)) ?_)
      refine o_run rfl (e_val rfl (y_p rfl) ?_)
      refine w_nil ?_
      have hb5 := hb.sub (sz := 1) (fun _ => rfl) (i := 0) (j := 500) (Nat.zero_le _) (by omega)
      refine q_join (if cap2 = 0 then a2 else Option.map (fun x => x.add (0 * 1)) a2, cap2 - 0, body.take 500) ⟨by dsimp only; rw [List.length_take, Nat.min_eq_left (by omega)]; exact hb5, by dsimp only; rw [List.length_take]; omega⟩ ⟨rfl, rfl, by dsimp only; rw [List.length_take, Nat.min_eq_left (by omega)]; rfl, trivial⟩ rfl rfl
    · refine w_skip ?_
      refine q_join (a2, cap2, body) ⟨hb, by dsimp only; omega⟩ ⟨rfl, rfl, rfl, trivial⟩ rfl rfl
  · rintro ⟨ax, qx, bx⟩ ⟨hbx, hlx⟩
    dsimp only at hbx hlx ⊢
    refine q_then ?_
    refine w_seq ?_
    refine w_region ?_
    refine o_run rfl (e_val rfl (y_p rfl) ?_)
    refine w_nil ?_
    refine q_then ?_
    refine w_seq ?_
    refine w_seq ?_
    refine w_region ?_
    refine o_run rfl (e_val rfl (y_p rfl) ?_)
    refine w_nil ?_
    refine q_then ?_
    refine w_block ?_
    refine w_loop (T := Nat) (fun i => ([(0, .slice a0 path.length cap0), (1, int k), (2, .slice ax bx.length qx), (7, str (pathL path i)), (8, int i)], F, [])) (fun i => i ≤ 6) (fun i => 6 - i) 0 (Nat.zero_le _) (by repeat (first | exact trivial | refine ⟨rfl, ?_⟩)) rfl rfl ?_
    intro ip hi
    dsimp only at hi ⊢
    refine w_seq ?_
    refine w_seq ?_
    refine w_join (T := Unit) (fun _ => ([(0, .slice a0 path.length cap0), (1, int k), (2, .slice ax bx.length qx), (7, str (pathL path ip)), (8, int ip), (29, .bool (decide ((ip : Int) < path.length ∧ (ip : Int) < 6)))], F, [])) (fun _ => True) ?_ ?_
    · refine w_region ?_
      refine o_run rfl (e_val rfl (y_p rfl) ?_)
      refine o_run rfl (e_val rfl (y_p rfl) ?_)
      refine o_run rfl (e_val rfl (y_lenL ty22 rfl) ?_)
      refine o_run rfl (e_val rfl (y_p rfl) ?_)
      refine o_run rfl (e_val rfl (y_p rfl) ?_)
      first | refine PW.wayD (t := 26) rfl rfl (fun h1 => ?_) (fun h1 => ?_) | refine PW.way (t := 26) rfl rfl (fun h1 => ?_) (fun h1 => ?_)
      · refine o_yes rfl rfl rfl (e_val rfl (y_p rfl) ?_)
        refine o_yes rfl rfl rfl (e_val rfl (y_p rfl) ?_)
        refine o_run rfl (e_val rfl (y_p rfl) ?_)
        refine w_nil ?_
        refine q_join () trivial (by repeat (first | exact trivial | refine ⟨by (first | rfl | exact congrArg (fun b => some (Value.bool b)) (decide_eq_true (by omega)).symm | exact congrArg (fun b => some (Value.bool b)) (decide_eq_false (by omega)).symm | exact congrArg (fun b => some (Value.bool b)) (decide_eq_decide.2 (by omega))), ?_⟩)) rfl rfl
      · refine g_no rfl rfl rfl rfl ?_
        refine g_no rfl rfl rfl rfl ?_
        refine o_run rfl (e_val rfl (y_p rfl) ?_)
        refine w_nil ?_
        refine q_join () trivial (by repeat (first | exact trivial | refine ⟨by (first | rfl | exact congrArg (fun b => some (Value.bool b)) (decide_eq_true (by omega)).symm | exact congrArg (fun b => some (Value.bool b)) (decide_eq_false (by omega)).symm | exact congrArg (fun b => some (Value.bool b)) (decide_eq_decide.2 (by omega))), ?_⟩)) rfl rfl
    · rintro _ _
      dsimp only
      refine q_then ?_
      first | refine w_condD rfl (fun h1 => ?_) (fun h1 => ?_) | refine w_condN rfl (fun h1 => ?_) (fun h1 => ?_) | refine w_cond rfl (fun h1 => ?_) (fun h1 => ?_)
      · refine w_skip ?_
        refine q_then ?_
        refine w_seq ?_
        refine w_block ?_
        refine w_region ?_
        have hk' : ip < path.length := by omega
        have hpl := pathL_len path ip
        obtain ⟨b0, off0, rfl, hcap0, hC⟩ := hcase0 (by intro h; simp [h] at hk')
        refine o_run rfl (e_val rfl (y_p rfl) ?_)
        refine o_run rfl (e_val rfl (y_p rfl) ?_)
        refine o_run rfl (e_val rfl (y_p rfl) ?_)
        refine o_run rfl (e_val rfl (y_ia ty22 ty5 rfl rfl (by omega)) ?_)
        refine o_run rfl (e_val rfl (y_ldC ty5 rfl hC (ld_fm1 (f := fun c : UInt8 => byte (c.toNat : Int)) path hk')) ?_)
        refine o_run rfl (e_val rfl (y_p rfl) ?_)
        refine o_run rfl (e_val rfl (y_pe (byte ((abLt path[ip]).toNat : Int)) rfl (congrArg (Value.int .u8) (abLt_int _))) ?_)
        refine o_run rfl (e_bs ty22 ty5 (by omega) rfl rfl rfl rfl (fun b39 => ?_))
        refine o_run rfl (e_val rfl (y_b2s ty22 ty9 ty5 rfl (l := [abLt path[ip]]) (Src.lit (k := 1) rfl) ⟨_, _, _, rfl⟩) ?_)
        refine o_run rfl (e_val rfl (y_cat rfl rfl (by simp only [List.length_append, List.length_cons, List.length_nil]; omega)) ?_)
        refine o_run rfl (e_val rfl (y_p rfl) ?_)
        refine w_nil ?_
        refine q_in ?_
        refine q_then ?_
        refine w_region ?_
        refine o_run rfl (e_val rfl (y_p rfl) ?_)
        refine o_run rfl (e_val rfl (y_addI rfl rfl (by omega)) ?_)
        refine o_run rfl (e_val rfl (y_p rfl) ?_)
        refine w_nil ?_
        refine PW.clear ?_
        refine q_round (ip + 1) (by omega) (by omega) ⟨rfl, rfl, rfl, by rw [pathL_snoc hk']; rfl, rfl, trivial⟩ rfl rfl
      · refine w_exit ?_
        refine q_thenE ?_
        refine q_thenE ?_
        refine q_inE ?_
        refine q_then ?_
        refine w_seq ?_
        refine w_region ?_
        refine o_run rfl (e_bs ty40 ty9 (by omega) rfl rfl rfl rfl (fun b9 => ?_))
        refine PW.freezeN (fun F1 hF1 hb9 => ?_)
        have hC9 : Cs F1 b9 0 (preL.flatMap encS1) := ⟨_, _, _, hb9, rfl⟩
        refine o_run rfl (e_val rfl (y_p rfl) ?_)
        refine w_nil ?_
        refine q_then ?_
        refine w_seq ?_
        refine w_region ?_
        refine o_run rfl (e_val rfl (y_p rfl) ?_)
        refine w_nil ?_
        refine q_then ?_
        refine w_seq ?_
        refine w_seq ?_
        refine w_region ?_
        refine o_run rfl (e_val rfl (y_p rfl) ?_)
        refine w_nil ?_
        refine q_then ?_
        refine w_block ?_
        refine w_loop (T := Nat × Value × Blks × List RV × FH) (fun x => ([(1, int k), (2, .slice ax bx.length qx), (7, str (pathL path ip)), (9, .slice (some ⟨b9, 0, none⟩) 4 4), (10, x.2.1), (11, int x.1)], x.2.2.2.2, x.2.2.1)) (fun x => x.1 ≤ 4 ∧ Le F1 x.2.2.2.2 ∧ x.2.2.2.1.map RV.r = rulesL.take x.1 ∧ (∀ y ∈ x.2.2.2.1, RvAt x.2.2.2.2 y) ∧ Own T29 6 (x.2.2.2.1.flatMap encR) x.2.2.2.1.length x.2.1 x.2.2.1) (fun x => 4 - x.1) (0, nilV, [], [], F1) (⟨Nat.zero_le _, Le.refl _, rfl, by simp, Own.nil _ _⟩) (by repeat (first | exact trivial | refine ⟨rfl, ?_⟩)) rfl rfl ?_
        rintro ⟨k10, vr, Γr, ys, Fk⟩ ⟨hk10, hFk, hyr, hya, hO⟩
        dsimp only at hk10 hFk hyr hya hO ⊢
        have hyl : ys.length = k10 := by have := congrArg List.length hyr; simpa [rulesL, Nat.min_eq_left hk10] using this
        refine w_seq ?_
        refine w_seq ?_
        refine w_region ?_
        refine o_run rfl (e_val rfl (y_p rfl) ?_)
        refine o_run rfl (e_val rfl (y_p rfl) ?_)
        refine w_nil ?_
        refine q_then ?_
        first | refine w_condD rfl (fun h2 => ?_) (fun h2 => ?_) | refine w_condN rfl (fun h2 => ?_) (fun h2 => ?_) | refine w_cond rfl (fun h2 => ?_) (fun h2 => ?_)
        · refine w_skip ?_
          refine q_then ?_
          refine w_seq ?_
          refine w_block ?_
          refine w_drawA [0, 1, 2, 3, 4, 5, 6, 7, 8, 10, 11] mixed ?_
          refine a_val (i := 0) (listed' := #[true, false, false, false, false, false, false, false, false, false, false, false, false, false, false]) rfl rfl rfl (by kernel_rfl) (by kernel_rfl) (by kernel_rfl) rfl (by kernel_rfl) rfl (by repeat (first | exact np_post | refine np_then ?_ | refine np_in ?_)) (by first | (intro p hp; (repeat (first | exact hp | apply List.mem_cons_of_mem | apply List.mem_append_right)); done) | (repeat (first | exact in_nil | refine in_cons (by repeat (first | exact List.mem_cons_self | apply List.mem_cons_of_mem | apply List.mem_append_right)) ?_))) (by first | exact Le.refl _ | assumption | exact Le.trans ‹_› ‹_›) rfl (y_p rfl) ?_
          refine a_val (i := 1) (listed' := #[true, true, false, false, false, false, false, false, false, false, false, false, false, false, false]) rfl rfl rfl (by kernel_rfl) (by kernel_rfl) (by kernel_rfl) rfl (by kernel_rfl) rfl (by repeat (first | exact np_post | refine np_then ?_ | refine np_in ?_)) (by first | (intro p hp; (repeat (first | exact hp | apply List.mem_cons_of_mem | apply List.mem_append_right)); done) | (repeat (first | exact in_nil | refine in_cons (by repeat (first | exact List.mem_cons_self | apply List.mem_cons_of_mem | apply List.mem_append_right)) ?_))) (by first | exact Le.refl _ | assumption | exact Le.trans ‹_› ‹_›) rfl (y_p rfl) ?_
          refine a_val (i := 2) (listed' := #[true, true, true, false, false, false, false, false, false, false, false, false, false, false, false]) rfl rfl rfl (by kernel_rfl) (by kernel_rfl) (by kernel_rfl) rfl (by kernel_rfl) rfl (by repeat (first | exact np_post | refine np_then ?_ | refine np_in ?_)) (by first | (intro p hp; (repeat (first | exact hp | apply List.mem_cons_of_mem | apply List.mem_append_right)); done) | (repeat (first | exact in_nil | refine in_cons (by repeat (first | exact List.mem_cons_self | apply List.mem_cons_of_mem | apply List.mem_append_right)) ?_))) (by first | exact Le.refl _ | assumption | exact Le.trans ‹_› ‹_›) rfl (y_p rfl) ?_
          have hk' : k10 < 4 := by omega
          refine a_val (i := 3) (listed' := #[true, true, true, true, false, false, false, false, false, false, false, false, false, false, false]) rfl rfl rfl (by kernel_rfl) (by kernel_rfl) (by kernel_rfl) rfl (by kernel_rfl) rfl (by repeat (first | exact np_post | refine np_then ?_ | refine np_in ?_)) (by first | (intro p hp; (repeat (first | exact hp | apply List.mem_cons_of_mem | apply List.mem_append_right)); done) | (repeat (first | exact in_nil | refine in_cons (by repeat (first | exact List.mem_cons_self | apply List.mem_cons_of_mem | apply List.mem_append_right)) ?_))) (by first | exact Le.refl _ | assumption | exact Le.trans ‹_› ‹_›) rfl (y_ia ty40 ty9 rfl rfl (by omega)) ?_
          refine a_val (i := 4) (listed' := #[true, true, true, true, true, false, false, false, false, false, false, false, false, false, false]) rfl rfl rfl (by kernel_rfl) (by kernel_rfl) (by kernel_rfl) rfl (by kernel_rfl) rfl (by repeat (first | exact np_post | refine np_then ?_ | refine np_in ?_)) (by first | (intro p hp; (repeat (first | exact hp | apply List.mem_cons_of_mem | apply List.mem_append_right)); done) | (repeat (first | exact in_nil | refine in_cons (by repeat (first | exact List.mem_cons_self | apply List.mem_cons_of_mem | apply List.mem_append_right)) ?_))) (by first | exact Le.refl _ | assumption | exact Le.trans ‹_› ‹_›) rfl (y_ldC ty9 rfl (hC9.mono hFk) (ld_fm1 (f := str) preL hk')) ?_
          refine a_val (i := 5) (listed' := #[true, true, true, true, true, true, false, false, false, false, false, false, false, false, false]) rfl rfl rfl (by kernel_rfl) (by kernel_rfl) (by kernel_rfl) rfl (by kernel_rfl) rfl (by repeat (first | exact np_post | refine np_then ?_ | refine np_in ?_)) (by first | (intro p hp; (repeat (first | exact hp | apply List.mem_cons_of_mem | apply List.mem_append_right)); done) | (repeat (first | exact in_nil | refine in_cons (by repeat (first | exact List.mem_cons_self | apply List.mem_cons_of_mem | apply List.mem_append_right)) ?_))) (by first | exact Le.refl _ | assumption | exact Le.trans ‹_› ‹_›) rfl (y_p rfl) ?_
          refine a_val (i := 6) (listed' := #[true, true, true, true, true, true, true, false, false, false, false, false, false, false, false]) rfl rfl rfl (by kernel_rfl) (by kernel_rfl) (by kernel_rfl) rfl (by kernel_rfl) rfl (by repeat (first | exact np_post | refine np_then ?_ | refine np_in ?_)) (by first | (intro p hp; (repeat (first | exact hp | apply List.mem_cons_of_mem | apply List.mem_append_right)); done) | (repeat (first | exact in_nil | refine in_cons (by repeat (first | exact List.mem_cons_self | apply List.mem_cons_of_mem | apply List.mem_append_right)) ?_))) (by first | exact Le.refl _ | assumption | exact Le.trans ‹_› ‹_›) rfl (y_p rfl) ?_
          refine a_val (i := 7) (listed' := #[true, true, true, true, true, true, true, true, false, false, false, false, false, false, false]) rfl rfl rfl (by kernel_rfl) (by kernel_rfl) (by kernel_rfl) rfl (by kernel_rfl) rfl (by repeat (first | exact np_post | refine np_then ?_ | refine np_in ?_)) (by first | (intro p hp; (repeat (first | exact hp | apply List.mem_cons_of_mem | apply List.mem_append_right)); done) | (repeat (first | exact in_nil | refine in_cons (by repeat (first | exact List.mem_cons_self | apply List.mem_cons_of_mem | apply List.mem_append_right)) ?_))) (by first | exact Le.refl _ | assumption | exact Le.trans ‹_› ‹_›) rfl (y_ia ty40 ty9 rfl rfl (by omega)) ?_
          refine a_val (i := 8) (listed' := #[true, true, true, true, true, true, true, true, true, false, false, false, false, false, false]) rfl rfl rfl (by kernel_rfl) (by kernel_rfl) (by kernel_rfl) rfl (by kernel_rfl) rfl (by repeat (first | exact np_post | refine np_then ?_ | refine np_in ?_)) (by first | (intro p hp; (repeat (first | exact hp | apply List.mem_cons_of_mem | apply List.mem_append_right)); done) | (repeat (first | exact in_nil | refine in_cons (by repeat (first | exact List.mem_cons_self | apply List.mem_cons_of_mem | apply List.mem_append_right)) ?_))) (by first | exact Le.refl _ | assumption | exact Le.trans ‹_› ‹_›) rfl (y_ldC ty9 rfl (hC9.mono hFk) (ld_fm1 (f := str) preL hk')) ?_
          refine a_val (i := 10) (listed' := #[true, true, true, true, true, true, true, true, true, false, true, false, false, false, false]) rfl rfl rfl (by kernel_rfl) (by kernel_rfl) (by kernel_rfl) rfl (by kernel_rfl) rfl (by repeat (first | exact np_post | refine np_then ?_ | refine np_in ?_)) (by first | (intro p hp; (repeat (first | exact hp | apply List.mem_cons_of_mem | apply List.mem_append_right)); done) | (repeat (first | exact in_nil | refine in_cons (by repeat (first | exact List.mem_cons_self | apply List.mem_cons_of_mem | apply List.mem_append_right)) ?_))) (by first | exact Le.refl _ | assumption | exact Le.trans ‹_› ‹_›) rfl (y_p rfl) ?_
          refine a_one (i := 9) (listed' := #[true, true, true, true, true, true, true, true, true, true, true, false, false, false, false]) rfl rfl (by kernel_rfl) rfl rfl (.inr ⟨(by first | (intro p hp; (repeat (first | exact hp | apply List.mem_cons_of_mem | apply List.mem_append_right)); done) | (repeat (first | exact in_nil | refine in_cons (by repeat (first | exact List.mem_cons_self | apply List.mem_cons_of_mem | apply List.mem_append_right)) ?_))), (by first | exact Le.refl _ | assumption | exact Le.trans ‹_› ‹_›)⟩) (e_s2b ty9 ty22 ty5 rfl rfl (fun v9 Γ9 hO9 => ?_))
          rw [bytes_flat] at hO9
          obtain ⟨p9, c9, rfl⟩ := hO9.val
          refine PW.freezeOwn hO9 (List.Perm.refl _) (fun F9 hF9 hS9 => ?_)
          refine a_val (i := 11) (listed' := #[true, true, true, true, true, true, true, true, true, true, true, true, false, false, false]) rfl rfl rfl (by kernel_rfl) (by kernel_rfl) (by kernel_rfl) rfl (by kernel_rfl) rfl (by repeat (first | exact np_post | refine np_then ?_ | refine np_in ?_)) (by first | (intro p hp; (repeat (first | exact hp | apply List.mem_cons_of_mem | apply List.mem_append_right)); done) | (repeat (first | exact in_nil | refine in_cons (by repeat (first | exact List.mem_cons_self | apply List.mem_cons_of_mem | apply List.mem_append_right)) ?_))) (by first | exact Le.refl _ | assumption | exact Le.trans ‹_› ‹_›) rfl (y_build pl29 rfl rfl) ?_
          refine a_one (i := 12) (listed' := #[true, true, true, true, true, true, true, true, true, true, true, true, true, false, false]) rfl rfl (by kernel_rfl) rfl rfl (.inr ⟨(by first | (intro p hp; (repeat (first | exact hp | apply List.mem_cons_of_mem | apply List.mem_append_right)); done) | (repeat (first | exact in_nil | refine in_cons (by repeat (first | exact List.mem_cons_self | apply List.mem_cons_of_mem | apply List.mem_append_right)) ?_))), (by first | exact Le.refl _ | assumption | exact Le.trans ‹_› ‹_›)⟩) (e_bs ty30 ty29 (by omega) rfl rfl rfl rfl (fun b59 => ?_))
          refine a_one (i := 13) (listed' := #[true, true, true, true, true, true, true, true, true, true, true, true, true, true, false]) rfl rfl (by kernel_rfl) rfl rfl (.inr ⟨(by first | (intro p hp; (repeat (first | exact hp | apply List.mem_cons_of_mem | apply List.mem_append_right)); done) | (repeat (first | exact in_nil | refine in_cons (by repeat (first | exact List.mem_cons_self | apply List.mem_cons_of_mem | apply List.mem_append_right)) ?_))), (by first | exact Le.refl _ | assumption | exact Le.trans ‹_› ‹_›)⟩) (e_appS ty30 ty30.u (.inl ⟨_, rfl⟩) ty29 rfl rfl rfl hO (Src.lit (k := 1) rfl) rfl (by omega) (by decide) rfl (fun v13 Γ13 hO13 => ?_))
          obtain ⟨p13, c13, rfl⟩ := hO13.val
          refine a_one (i := 14) (listed' := #[true, true, true, true, true, true, true, true, true, true, true, true, true, true, true]) rfl rfl (by kernel_rfl) rfl rfl (.inl (by kernel_rfl)) (e_val rfl (y_p rfl) ?_)
          refine a_done (by kernel_rfl) (by kernel_rfl) ?_
          refine q_in ?_
          refine q_then ?_
          refine w_region ?_
          refine o_run rfl (e_val rfl (y_p rfl) ?_)
          refine o_run rfl (e_val rfl (y_addI rfl rfl (by omega)) ?_)
          refine o_run rfl (e_val rfl (y_p rfl) ?_)
          refine w_nil ?_
          refine PW.only Γ13 ?_
          refine q_round (k10 + 1, .slice p13 (ys.length + 1) c13, Γ13, ys ++ [⟨ruR k10, nilV, .slice p9 (preL[k10]'hk').length c9⟩], F9) ⟨by dsimp only; omega, hFk.trans hF9, ?_, ?_, ?_⟩ (by dsimp only; omega) ⟨rfl, rfl, rfl, rfl, rfl, rfl, trivial⟩ rfl rfl
          · dsimp only
            have hr10 : rulesL[k10]'(show k10 < rulesL.length from hk') = ruR k10 := rules_at hk'
            rw [List.take_succ_eq_append_getElem (show k10 < rulesL.length from hk'), List.map_append, hyr, hr10]
            rfl
          · intro y hy
            rcases List.mem_append.1 hy with hy | hy
            · exact (hya y hy).mono hF9
            · rw [List.mem_singleton.1 hy]
              refine ⟨SlAt.nil, ?_⟩
              have : (ruR k10).body = preL[k10]'hk' := by show preL.getD k10 [] = _; rw [List.getD_eq_getElem?_getD, List.getElem?_eq_getElem (show k10 < preL.length from hk')]; rfl
              rw [this]
              exact hS9
          · dsimp only
            rw [List.flatMap_append, List.length_append]
            have hgd10 : preL.getD k10 [] = preL[k10]'hk' := by rw [List.getD_eq_getElem?_getD, List.getElem?_eq_getElem (show k10 < preL.length from hk')]; rfl
            have he : ([⟨ruR k10, nilV, .slice p9 (preL[k10]'hk').length c9⟩] : List RV).flatMap encR = [str (preL[k10]'hk'), int 200, nilV, .slice p9 (preL[k10]'hk').length c9, int (k10 : Int), int (-7)] := by
              simp only [List.flatMap_cons, List.flatMap_nil, List.append_nil, encR, ruR, hgd10]
            rw [he]
            exact hO13
        · refine w_exit ?_
          refine q_thenE ?_
          refine q_thenE ?_
          refine q_inE ?_
          refine q_then ?_
          refine w_seq ?_
          refine w_region ?_
          obtain rfl : k10 = 4 := by omega
          have hys : ys.map RV.r = rulesL := hyr
          refine PW.freezeOwn (Γr := []) hO (by rw [List.append_nil]) (fun F14 hF14 hS14 => ?_)
          have hG14 := hG.mono (hF1.trans (hFk.trans hF14))
          refine o_run rfl (e_val rfl (y_p rfl) ?_)
          refine o_run rfl (e_call rfl rfl (c_New _ hG14 vr ys hS14 (fun x hx => ⟨(hya x hx).mono hF14, by obtain ⟨i, hi, he⟩ := rules_mem (hys ▸ List.mem_map.2 ⟨x, hx, rfl⟩ : x.r ∈ rulesL); rw [he]; exact ruR_ok hi⟩) (by omega)) (List.Perm.refl _) rfl (fun r14 F15 Γ15 hR14 hF15 => ?_))
          rw [hys, if_pos rules_new, hyl] at hR14
          obtain ⟨p14, rfl, hI14⟩ := hR14
          obtain ⟨bo, -, -, -, -, hp14, -⟩ := id hI14
          subst hp14
          have hG15 := hG14.mono hF15
          have hF015 := hF1.trans (hFk.trans (hF14.trans hF15))
          refine o_run rfl (e_val rfl (y_p rfl) ?_)
          refine o_run rfl (e_val rfl (y_p rfl) ?_)
          refine o_run rfl (e_val rfl (y_p rfl) ?_)
          refine o_run rfl (e_val rfl (y_p rfl) ?_)
          refine o_run rfl (e_val rfl (y_p rfl) ?_)
          refine w_nil ?_
          refine q_then ?_
          refine w_seq ?_
          refine w_seq ?_
          refine w_region ?_
          refine o_run rfl (e_val rfl (y_p rfl) ?_)
          refine o_run rfl (e_val rfl (y_p (v := .bool false) rfl) ?_)
          refine o_run rfl (e_val rfl (y_p rfl) ?_)
          refine o_yes rfl rfl rfl (e_val rfl (y_p rfl) ?_)
          refine o_yes rfl rfl rfl (e_val rfl (y_peq ty23 rfl) ?_)
          refine o_run rfl (e_val rfl (y_p rfl) ?_)
          refine w_nil ?_
          refine q_then ?_
          refine w_condF rfl ?_
          refine w_skip ?_
          refine q_then ?_
          refine w_seq ?_
          refine w_region ?_
          refine o_run rfl (e_val rfl (y_p rfl) ?_)
          refine o_run rfl (e_val rfl (y_rem rfl rfl (by decide) (by omega)) ?_)
          refine o_run rfl (e_val rfl (y_addI rfl rfl (by omega)) ?_)
          refine o_run rfl (e_val rfl (y_rem rfl rfl (by decide) (by omega)) ?_)
          refine o_run rfl (e_val rfl (y_p rfl) ?_)
          refine w_nil ?_
          refine q_then ?_
          refine w_seq ?_
          refine w_seq ?_
          refine w_region ?_
          obtain ⟨kk, hkk⟩ : ∃ kk : Nat, (k.tmod 4 + 4).tmod 4 = (kk : Int) := ⟨((k.tmod 4 + 4).tmod 4).toNat, by omega⟩
          rw [hkk]
          have hkk4 : kk < 4 := by omega
          have hrok : ∀ r ∈ rulesL, RlOk r := fun r hr => by obtain ⟨i, hi, rfl⟩ := rules_mem hr; exact ruR_ok hi
          refine o_run rfl (e_val rfl (y_p rfl) ?_)
          refine o_run rfl (e_val rfl (y_p rfl) ?_)
          refine o_run rfl (e_val rfl (y_p rfl) ?_)
          refine o_run rfl (e_callP Γ15 rfl rfl (c_Change _ hG15 Γ15 _ rulesL (List.replicate 4 0) (kk : Int) _ bx hI14 (hbx.mono hF015) (by omega) hrok (by intro g hg; have := List.eq_of_mem_replicate hg; omega)) rfl (fun r18 F18 Γ18 hR18 hF18 => ?_))
          rw [if_pos (ch_ok (by omega) (by omega))] at hR18
          obtain ⟨rfl, hI18⟩ := hR18
          have hI18 : IsOrigin F18 Γ18 _ (rules2 kk bx) (gens4 kk) := hI18
          have hset := set_ok hkk4 (body := bx) (by omega)
          have hG18 := hG15.mono hF18
          refine o_run rfl (e_val rfl (y_p (v := .bool false) rfl) ?_)
          refine o_run rfl (e_val rfl (y_p rfl) ?_)
          refine o_yes rfl rfl rfl (e_val rfl (y_p rfl) ?_)
          refine o_yes rfl rfl rfl (e_val rfl (y_p rfl) ?_)
          refine o_yes rfl rfl rfl (e_callP Γ18 rfl rfl (c_Change _ hG18 Γ18 _ (rules2 kk bx) (gens4 kk) 4 _ bx hI18 (hbx.mono (hF015.trans hF18)) (by omega) (fun r hr => (hset r hr).1) (gens_ok kk)) rfl (fun r19 F19 Γ19 hR19 hF19 => ?_))
          rw [if_neg (fun h => out_change h (by simp [rulesL]))] at hR19
          obtain ⟨rfl, hI19⟩ := hR19
          refine PW.pull Γ19 ?_
          refine PW.frozenOrigin hI19 (fun bo' F20 hp19 hF20 hO20 => ?_)
          obtain rfl : bo = bo' := by simpa using hp19
          refine PW.clear ?_
          have hF1_20 := hFk.trans (hF14.trans (hF15.trans (hF18.trans (hF19.trans hF20))))
          refine o_yes rfl rfl rfl (e_val rfl (y_p (v := .bool false) rfl) ?_)
          refine o_run rfl (e_val rfl (y_p rfl) ?_)
          refine w_nil ?_
          refine q_then ?_
          refine w_condF rfl ?_
          refine w_skip ?_
          refine q_then ?_
          refine w_seq ?_
          refine w_region ?_
          refine o_run rfl (e_val rfl (y_p rfl) ?_)
          refine w_nil ?_
          refine q_then ?_
          refine w_seq ?_
          refine w_seq ?_
          refine w_region ?_
          refine o_run rfl (e_val rfl (y_p rfl) ?_)
          refine w_nil ?_
          refine q_then ?_
          refine w_block ?_
          refine w_loop (T := Nat) (fun x => ([(1, int kk), (2, .slice ax bx.length qx), (7, str (pathL path ip)), (9, .slice (some ⟨b9, 0, none⟩) 4 4), (12, .pointer (some ⟨bo, 0, none⟩)), (14, int (wantI (pathL path ip) x)), (15, int ((x : Int) - 1))], F20, [])) (fun x => x ≤ 4) (fun x => x) 4 (Nat.le_refl _) (by repeat (first | exact trivial | refine ⟨rfl, ?_⟩)) rfl rfl ?_
          intro x hx
          dsimp only at hx ⊢
          refine w_seq ?_
          refine w_seq ?_
          refine w_region ?_
          refine o_run rfl (e_val rfl (y_p rfl) ?_)
          refine o_run rfl (e_val rfl (y_p rfl) ?_)
          refine w_nil ?_
          refine q_then ?_
          first | refine w_condD rfl (fun h3 => ?_) (fun h3 => ?_) | refine w_condN rfl (fun h3 => ?_) (fun h3 => ?_) | refine w_cond rfl (fun h3 => ?_) (fun h3 => ?_)
          · refine w_skip ?_
            refine q_then ?_
            refine w_seq ?_
            refine w_block ?_
            refine w_seq ?_
            refine w_drawA [0, 1, 2, 3, 4, 5, 6, 9, 10, 11, 12, 13, 14, 15, 16, 17, 18, 19, 20] mixed ?_
            obtain ⟨i, rfl⟩ : ∃ i, x = i + 1 := ⟨x - 1, by omega⟩
            have hi4 : i < 4 := by omega
            rw [show (((i + 1 : Nat) : Int) - 1) = (i : Int) by omega]
            have hgd : preL.getD i [] = preL[i]'hi4 := by rw [List.getD_eq_getElem?_getD, List.getElem?_eq_getElem (show i < preL.length from hi4)]; rfl
            have hws := wantI_step (p := pathL path ip) hi4
            have hpx := pfx_iff (pathL path ip) (preL[i]'hi4)
            rw [hgd] at hws
            refine a_val (i := 0) (listed' := #[true, false, false, false, false, false, false, false, false, false, false, false, false, false, false, false, false, false, false, false, false, false]) rfl rfl rfl (by kernel_rfl) (by kernel_rfl) (by kernel_rfl) rfl (by kernel_rfl) rfl (by repeat (first | exact np_post | refine np_then ?_ | refine np_in ?_)) (by first | (intro p hp; (repeat (first | exact hp | apply List.mem_cons_of_mem | apply List.mem_append_right)); done) | (repeat (first | exact in_nil | refine in_cons (by repeat (first | exact List.mem_cons_self | apply List.mem_cons_of_mem | apply List.mem_append_right)) ?_))) (by first | exact Le.refl _ | assumption | exact Le.trans ‹_› ‹_›) rfl (y_p rfl) ?_
            refine a_val (i := 1) (listed' := #[true, true, false, false, false, false, false, false, false, false, false, false, false, false, false, false, false, false, false, false, false, false]) rfl rfl rfl (by kernel_rfl) (by kernel_rfl) (by kernel_rfl) rfl (by kernel_rfl) rfl (by repeat (first | exact np_post | refine np_then ?_ | refine np_in ?_)) (by first | (intro p hp; (repeat (first | exact hp | apply List.mem_cons_of_mem | apply List.mem_append_right)); done) | (repeat (first | exact in_nil | refine in_cons (by repeat (first | exact List.mem_cons_self | apply List.mem_cons_of_mem | apply List.mem_append_right)) ?_))) (by first | exact Le.refl _ | assumption | exact Le.trans ‹_› ‹_›) rfl (y_lenS ty9 rfl) ?_
            refine a_val (i := 2) (listed' := #[true, true, true, false, false, false, false, false, false, false, false, false, false, false, false, false, false, false, false, false, false, false]) rfl rfl rfl (by kernel_rfl) (by kernel_rfl) (by kernel_rfl) rfl (by kernel_rfl) rfl (by repeat (first | exact np_post | refine np_then ?_ | refine np_in ?_)) (by first | (intro p hp; (repeat (first | exact hp | apply List.mem_cons_of_mem | apply List.mem_append_right)); done) | (repeat (first | exact in_nil | refine in_cons (by repeat (first | exact List.mem_cons_self | apply List.mem_cons_of_mem | apply List.mem_append_right)) ?_))) (by first | exact Le.refl _ | assumption | exact Le.trans ‹_› ‹_›) rfl (y_p rfl) ?_
            refine a_val (i := 3) (listed' := #[true, true, true, true, false, false, false, false, false, false, false, false, false, false, false, false, false, false, false, false, false, false]) rfl rfl rfl (by kernel_rfl) (by kernel_rfl) (by kernel_rfl) rfl (by kernel_rfl) rfl (by repeat (first | exact np_post | refine np_then ?_ | refine np_in ?_)) (by first | (intro p hp; (repeat (first | exact hp | apply List.mem_cons_of_mem | apply List.mem_append_right)); done) | (repeat (first | exact in_nil | refine in_cons (by repeat (first | exact List.mem_cons_self | apply List.mem_cons_of_mem | apply List.mem_append_right)) ?_))) (by first | exact Le.refl _ | assumption | exact Le.trans ‹_› ‹_›) rfl (y_p rfl) ?_
            refine a_val (i := 4) (listed' := #[true, true, true, true, true, false, false, false, false, false, false, false, false, false, false, false, false, false, false, false, false, false]) rfl rfl rfl (by kernel_rfl) (by kernel_rfl) (by kernel_rfl) rfl (by kernel_rfl) rfl (by repeat (first | exact np_post | refine np_then ?_ | refine np_in ?_)) (by first | (intro p hp; (repeat (first | exact hp | apply List.mem_cons_of_mem | apply List.mem_append_right)); done) | (repeat (first | exact in_nil | refine in_cons (by repeat (first | exact List.mem_cons_self | apply List.mem_cons_of_mem | apply List.mem_append_right)) ?_))) (by first | exact Le.refl _ | assumption | exact Le.trans ‹_› ‹_›) rfl (y_ia ty40 ty9 rfl rfl (by omega)) ?_
            refine a_val (i := 5) (listed' := #[true, true, true, true, true, true, false, false, false, false, false, false, false, false, false, false, false, false, false, false, false, false]) rfl rfl rfl (by kernel_rfl) (by kernel_rfl) (by kernel_rfl) rfl (by kernel_rfl) rfl (by repeat (first | exact np_post | refine np_then ?_ | refine np_in ?_)) (by first | (intro p hp; (repeat (first | exact hp | apply List.mem_cons_of_mem | apply List.mem_append_right)); done) | (repeat (first | exact in_nil | refine in_cons (by repeat (first | exact List.mem_cons_self | apply List.mem_cons_of_mem | apply List.mem_append_right)) ?_))) (by first | exact Le.refl _ | assumption | exact Le.trans ‹_› ‹_›) rfl (y_ldC ty9 rfl (hC9.mono hF1_20) (ld_fm1 (f := str) preL hi4)) ?_
            refine a_val (i := 6) (listed' := #[true, true, true, true, true, true, true, false, false, false, false, false, false, false, false, false, false, false, false, false, false, false]) rfl rfl rfl (by kernel_rfl) (by kernel_rfl) (by kernel_rfl) rfl (by kernel_rfl) rfl (by repeat (first | exact np_post | refine np_then ?_ | refine np_in ?_)) (by first | (intro p hp; (repeat (first | exact hp | apply List.mem_cons_of_mem | apply List.mem_append_right)); done) | (repeat (first | exact in_nil | refine in_cons (by repeat (first | exact List.mem_cons_self | apply List.mem_cons_of_mem | apply List.mem_append_right)) ?_))) (by first | exact Le.refl _ | assumption | exact Le.trans ‹_› ‹_›) rfl (y_lenS ty9 rfl) ?_
            refine a_one (i := 7) (listed' := #[true, true, true, true, true, true, true, true, false, false, false, false, false, false, false, false, false, false, false, false, false, false]) rfl rfl (by kernel_rfl) rfl rfl (.inr ⟨(by first | (intro p hp; (repeat (first | exact hp | apply List.mem_cons_of_mem | apply List.mem_append_right)); done) | (repeat (first | exact in_nil | refine in_cons (by repeat (first | exact List.mem_cons_self | apply List.mem_cons_of_mem | apply List.mem_append_right)) ?_))), (by first | exact Le.refl _ | assumption | exact Le.trans ‹_› ‹_›)⟩) (e_val rfl (y_p rfl) ?_)
            refine a_one (i := 8) (listed' := #[true, true, true, true, true, true, true, true, true, false, false, false, false, false, false, false, false, false, false, false, false, false]) rfl rfl (by kernel_rfl) rfl rfl (.inr ⟨(by first | (intro p hp; (repeat (first | exact hp | apply List.mem_cons_of_mem | apply List.mem_append_right)); done) | (repeat (first | exact in_nil | refine in_cons (by repeat (first | exact List.mem_cons_self | apply List.mem_cons_of_mem | apply List.mem_append_right)) ?_))), (by first | exact Le.refl _ | assumption | exact Le.trans ‹_› ‹_›)⟩) (e_val rfl (y_p rfl) ?_)
            first | refine PW.wayD (t := 99) rfl rfl (fun h4 => ?_) (fun h4 => ?_) | refine PW.way (t := 99) rfl rfl (fun h4 => ?_) (fun h4 => ?_)
            · refine a_valG (i := 9) (listed' := #[true, true, true, true, true, true, true, true, true, true, false, false, false, false, false, false, false, false, false, false, false, false]) rfl rfl rfl rfl rfl (by kernel_rfl) (by kernel_rfl) (by kernel_rfl) rfl (by kernel_rfl) rfl (by repeat (first | exact np_post | refine np_then ?_ | refine np_in ?_)) (by first | (intro p hp; (repeat (first | exact hp | apply List.mem_cons_of_mem | apply List.mem_append_right)); done) | (repeat (first | exact in_nil | refine in_cons (by repeat (first | exact List.mem_cons_self | apply List.mem_cons_of_mem | apply List.mem_append_right)) ?_))) (by first | exact Le.refl _ | assumption | exact Le.trans ‹_› ‹_›) rfl (y_p rfl) ?_
              refine a_valG (i := 10) (listed' := #[true, true, true, true, true, true, true, true, true, true, true, false, false, false, false, false, false, false, false, false, false, false]) rfl rfl rfl rfl rfl (by kernel_rfl) (by kernel_rfl) (by kernel_rfl) rfl (by kernel_rfl) rfl (by repeat (first | exact np_post | refine np_then ?_ | refine np_in ?_)) (by first | (intro p hp; (repeat (first | exact hp | apply List.mem_cons_of_mem | apply List.mem_append_right)); done) | (repeat (first | exact in_nil | refine in_cons (by repeat (first | exact List.mem_cons_self | apply List.mem_cons_of_mem | apply List.mem_append_right)) ?_))) (by first | exact Le.refl _ | assumption | exact Le.trans ‹_› ‹_›) rfl (y_p rfl) ?_
              refine a_valG (i := 11) (listed' := #[true, true, true, true, true, true, true, true, true, true, true, true, false, false, false, false, false, false, false, false, false, false]) rfl rfl rfl rfl rfl (by kernel_rfl) (by kernel_rfl) (by kernel_rfl) rfl (by kernel_rfl) rfl (by repeat (first | exact np_post | refine np_then ?_ | refine np_in ?_)) (by first | (intro p hp; (repeat (first | exact hp | apply List.mem_cons_of_mem | apply List.mem_append_right)); done) | (repeat (first | exact in_nil | refine in_cons (by repeat (first | exact List.mem_cons_self | apply List.mem_cons_of_mem | apply List.mem_append_right)) ?_))) (by first | exact Le.refl _ | assumption | exact Le.trans ‹_› ‹_›) rfl (y_p rfl) ?_
              refine a_valG (i := 12) (listed' := #[true, true, true, true, true, true, true, true, true, true, true, true, true, false, false, false, false, false, false, false, false, false]) rfl rfl rfl rfl rfl (by kernel_rfl) (by kernel_rfl) (by kernel_rfl) rfl (by kernel_rfl) rfl (by repeat (first | exact np_post | refine np_then ?_ | refine np_in ?_)) (by first | (intro p hp; (repeat (first | exact hp | apply List.mem_cons_of_mem | apply List.mem_append_right)); done) | (repeat (first | exact in_nil | refine in_cons (by repeat (first | exact List.mem_cons_self | apply List.mem_cons_of_mem | apply List.mem_append_right)) ?_))) (by first | exact Le.refl _ | assumption | exact Le.trans ‹_› ‹_›) rfl (y_ia ty40 ty9 rfl rfl (by omega)) ?_
              refine a_valG (i := 13) (listed' := #[true, true, true, true, true, true, true, true, true, true, true, true, true, true, false, false, false, false, false, false, false, false]) rfl rfl rfl rfl rfl (by kernel_rfl) (by kernel_rfl) (by kernel_rfl) rfl (by kernel_rfl) rfl (by repeat (first | exact np_post | refine np_then ?_ | refine np_in ?_)) (by first | (intro p hp; (repeat (first | exact hp | apply List.mem_cons_of_mem | apply List.mem_append_right)); done) | (repeat (first | exact in_nil | refine in_cons (by repeat (first | exact List.mem_cons_self | apply List.mem_cons_of_mem | apply List.mem_append_right)) ?_))) (by first | exact Le.refl _ | assumption | exact Le.trans ‹_› ‹_›) rfl (y_ldC ty9 rfl (hC9.mono hF1_20) (ld_fm1 (f := str) preL hi4)) ?_
              refine a_valG (i := 14) (listed' := #[true, true, true, true, true, true, true, true, true, true, true, true, true, true, true, false, false, false, false, false, false, false]) rfl rfl rfl rfl rfl (by kernel_rfl) (by kernel_rfl) (by kernel_rfl) rfl (by kernel_rfl) rfl (by repeat (first | exact np_post | refine np_then ?_ | refine np_in ?_)) (by first | (intro p hp; (repeat (first | exact hp | apply List.mem_cons_of_mem | apply List.mem_append_right)); done) | (repeat (first | exact in_nil | refine in_cons (by repeat (first | exact List.mem_cons_self | apply List.mem_cons_of_mem | apply List.mem_append_right)) ?_))) (by first | exact Le.refl _ | assumption | exact Le.trans ‹_› ‹_›) rfl (y_lenS ty9 rfl) ?_
              refine a_valG (i := 15) (listed' := #[true, true, true, true, true, true, true, true, true, true, true, true, true, true, true, true, false, false, false, false, false, false]) rfl rfl rfl rfl rfl (by kernel_rfl) (by kernel_rfl) (by kernel_rfl) rfl (by kernel_rfl) rfl (by repeat (first | exact np_post | refine np_then ?_ | refine np_in ?_)) (by first | (intro p hp; (repeat (first | exact hp | apply List.mem_cons_of_mem | apply List.mem_append_right)); done) | (repeat (first | exact in_nil | refine in_cons (by repeat (first | exact List.mem_cons_self | apply List.mem_cons_of_mem | apply List.mem_append_right)) ?_))) (by first | exact Le.refl _ | assumption | exact Le.trans ‹_› ‹_›) rfl (y_slS ty9 rfl rfl rfl (by omega)) ?_
              refine a_valG (i := 16) (listed' := #[true, true, true, true, true, true, true, true, true, true, true, true, true, true, true, true, true, false, false, false, false, false]) rfl rfl rfl rfl rfl (by kernel_rfl) (by kernel_rfl) (by kernel_rfl) rfl (by kernel_rfl) rfl (by repeat (first | exact np_post | refine np_then ?_ | refine np_in ?_)) (by first | (intro p hp; (repeat (first | exact hp | apply List.mem_cons_of_mem | apply List.mem_append_right)); done) | (repeat (first | exact in_nil | refine in_cons (by repeat (first | exact List.mem_cons_self | apply List.mem_cons_of_mem | apply List.mem_append_right)) ?_))) (by first | exact Le.refl _ | assumption | exact Le.trans ‹_› ‹_›) rfl (y_p rfl) ?_
              refine a_valG (i := 17) (listed' := #[true, true, true, true, true, true, true, true, true, true, true, true, true, true, true, true, true, true, false, false, false, false]) rfl rfl rfl rfl rfl (by kernel_rfl) (by kernel_rfl) (by kernel_rfl) rfl (by kernel_rfl) rfl (by repeat (first | exact np_post | refine np_then ?_ | refine np_in ?_)) (by first | (intro p hp; (repeat (first | exact hp | apply List.mem_cons_of_mem | apply List.mem_append_right)); done) | (repeat (first | exact in_nil | refine in_cons (by repeat (first | exact List.mem_cons_self | apply List.mem_cons_of_mem | apply List.mem_append_right)) ?_))) (by first | exact Le.refl _ | assumption | exact Le.trans ‹_› ‹_›) rfl (y_p rfl) ?_
              refine a_valG (i := 18) (listed' := #[true, true, true, true, true, true, true, true, true, true, true, true, true, true, true, true, true, true, true, false, false, false]) rfl rfl rfl rfl rfl (by kernel_rfl) (by kernel_rfl) (by kernel_rfl) rfl (by kernel_rfl) rfl (by repeat (first | exact np_post | refine np_then ?_ | refine np_in ?_)) (by first | (intro p hp; (repeat (first | exact hp | apply List.mem_cons_of_mem | apply List.mem_append_right)); done) | (repeat (first | exact in_nil | refine in_cons (by repeat (first | exact List.mem_cons_self | apply List.mem_cons_of_mem | apply List.mem_append_right)) ?_))) (by first | exact Le.refl _ | assumption | exact Le.trans ‹_› ‹_›) rfl (y_ia ty40 ty9 rfl rfl (by omega)) ?_
              refine a_valG (i := 19) (listed' := #[true, true, true, true, true, true, true, true, true, true, true, true, true, true, true, true, true, true, true, true, false, false]) rfl rfl rfl rfl rfl (by kernel_rfl) (by kernel_rfl) (by kernel_rfl) rfl (by kernel_rfl) rfl (by repeat (first | exact np_post | refine np_then ?_ | refine np_in ?_)) (by first | (intro p hp; (repeat (first | exact hp | apply List.mem_cons_of_mem | apply List.mem_append_right)); done) | (repeat (first | exact in_nil | refine in_cons (by repeat (first | exact List.mem_cons_self | apply List.mem_cons_of_mem | apply List.mem_append_right)) ?_))) (by first | exact Le.refl _ | assumption | exact Le.trans ‹_› ‹_›) rfl (y_ldC ty9 rfl (hC9.mono hF1_20) (ld_fm1 (f := str) preL hi4)) ?_
              refine a_valG (i := 20) (listed' := #[true, true, true, true, true, true, true, true, true, true, true, true, true, true, true, true, true, true, true, true, true, false]) rfl rfl rfl rfl rfl (by kernel_rfl) (by kernel_rfl) (by kernel_rfl) rfl (by kernel_rfl) rfl (by repeat (first | exact np_post | refine np_then ?_ | refine np_in ?_)) (by first | (intro p hp; (repeat (first | exact hp | apply List.mem_cons_of_mem | apply List.mem_append_right)); done) | (repeat (first | exact in_nil | refine in_cons (by repeat (first | exact List.mem_cons_self | apply List.mem_cons_of_mem | apply List.mem_append_right)) ?_))) (by first | exact Le.refl _ | assumption | exact Le.trans ‹_› ‹_›) rfl (y_p rfl) ?_
              refine a_one (i := 21) (listed' := #[true, true, true, true, true, true, true, true, true, true, true, true, true, true, true, true, true, true, true, true, true, true]) rfl rfl (by kernel_rfl) rfl rfl (.inr ⟨(by first | (intro p hp; (repeat (first | exact hp | apply List.mem_cons_of_mem | apply List.mem_append_right)); done) | (repeat (first | exact in_nil | refine in_cons (by repeat (first | exact List.mem_cons_self | apply List.mem_cons_of_mem | apply List.mem_append_right)) ?_))), (by first | exact Le.refl _ | assumption | exact Le.trans ‹_› ‹_›)⟩) (e_val rfl (y_p rfl) ?_)
              refine a_done (by kernel_rfl) (by kernel_rfl) ?_
              refine q_then ?_
              first | refine w_condD rfl (fun h5 => ?_) (fun h5 => ?_) | refine w_condN rfl (fun h5 => ?_) (fun h5 => ?_) | refine w_cond rfl (fun h5 => ?_) (fun h5 => ?_)
              · refine w_region ?_
                refine o_run rfl (e_val rfl (y_p rfl) ?_)
                refine o_run rfl (e_val rfl (y_p rfl) ?_)
                refine w_nil ?_
                refine q_in ?_
                refine q_then ?_
                refine w_region ?_
                refine o_run rfl (e_val rfl (y_p rfl) ?_)
                refine o_run rfl (e_val rfl (y_subI rfl rfl (by omega)) ?_)
                refine o_run rfl (e_val rfl (y_p rfl) ?_)
                refine w_nil ?_
                refine PW.clear ?_
                refine q_round i (by omega) (by omega) ⟨rfl, rfl, rfl, rfl, rfl, ?_, rfl, trivial⟩ rfl rfl
                rw [hws, if_pos (hpx.2 ⟨by omega, h5⟩)]
                rfl
              · refine w_skip ?_
                refine q_in ?_
                refine q_then ?_
                refine w_region ?_
                refine o_run rfl (e_val rfl (y_p rfl) ?_)
                refine o_run rfl (e_val rfl (y_subI rfl rfl (by omega)) ?_)
                refine o_run rfl (e_val rfl (y_p rfl) ?_)
                refine w_nil ?_
                refine PW.clear ?_
                refine q_round i (by omega) (by omega) ⟨rfl, rfl, rfl, rfl, rfl, ?_, rfl, trivial⟩ rfl rfl
                rw [hws, if_neg (fun h => h5 (hpx.1 h).2)]
                rfl
            · refine a_no (i := 9) (listed' := #[true, true, true, true, true, true, true, true, true, true, false, false, false, false, false, false, false, false, false, false, false, false]) rfl rfl rfl rfl rfl rfl (by kernel_rfl) (by kernel_rfl) (by kernel_rfl) rfl (by kernel_rfl) rfl (by repeat (first | exact np_post | refine np_then ?_ | refine np_in ?_)) (by first | (intro p hp; (repeat (first | exact hp | apply List.mem_cons_of_mem | apply List.mem_append_right)); done) | (repeat (first | exact in_nil | refine in_cons (by repeat (first | exact List.mem_cons_self | apply List.mem_cons_of_mem | apply List.mem_append_right)) ?_))) (by first | exact Le.refl _ | assumption | exact Le.trans ‹_› ‹_›) rfl ?_
              refine a_no (i := 10) (listed' := #[true, true, true, true, true, true, true, true, true, true, true, false, false, false, false, false, false, false, false, false, false, false]) rfl rfl rfl rfl rfl rfl (by kernel_rfl) (by kernel_rfl) (by kernel_rfl) rfl (by kernel_rfl) rfl (by repeat (first | exact np_post | refine np_then ?_ | refine np_in ?_)) (by first | (intro p hp; (repeat (first | exact hp | apply List.mem_cons_of_mem | apply List.mem_append_right)); done) | (repeat (first | exact in_nil | refine in_cons (by repeat (first | exact List.mem_cons_self | apply List.mem_cons_of_mem | apply List.mem_append_right)) ?_))) (by first | exact Le.refl _ | assumption | exact Le.trans ‹_› ‹_›) rfl ?_
              refine a_no (i := 11) (listed' := #[true, true, true, true, true, true, true, true, true, true, true, true, false, false, false, false, false, false, false, false, false, false]) rfl rfl rfl rfl rfl rfl (by kernel_rfl) (by kernel_rfl) (by kernel_rfl) rfl (by kernel_rfl) rfl (by repeat (first | exact np_post | refine np_then ?_ | refine np_in ?_)) (by first | (intro p hp; (repeat (first | exact hp | apply List.mem_cons_of_mem | apply List.mem_append_right)); done) | (repeat (first | exact in_nil | refine in_cons (by repeat (first | exact List.mem_cons_self | apply List.mem_cons_of_mem | apply List.mem_append_right)) ?_))) (by first | exact Le.refl _ | assumption | exact Le.trans ‹_› ‹_›) rfl ?_
              refine a_no (i := 12) (listed' := #[true, true, true, true, true, true, true, true, true, true, true, true, true, false, false, false, false, false, false, false, false, false]) rfl rfl rfl rfl rfl rfl (by kernel_rfl) (by kernel_rfl) (by kernel_rfl) rfl (by kernel_rfl) rfl (by repeat (first | exact np_post | refine np_then ?_ | refine np_in ?_)) (by first | (intro p hp; (repeat (first | exact hp | apply List.mem_cons_of_mem | apply List.mem_append_right)); done) | (repeat (first | exact in_nil | refine in_cons (by repeat (first | exact List.mem_cons_self | apply List.mem_cons_of_mem | apply List.mem_append_right)) ?_))) (by first | exact Le.refl _ | assumption | exact Le.trans ‹_› ‹_›) rfl ?_
              refine a_no (i := 13) (listed' := #[true, true, true, true, true, true, true, true, true, true, true, true, true, true, false, false, false, false, false, false, false, false]) rfl rfl rfl rfl rfl rfl (by kernel_rfl) (by kernel_rfl) (by kernel_rfl) rfl (by kernel_rfl) rfl (by repeat (first | exact np_post | refine np_then ?_ | refine np_in ?_)) (by first | (intro p hp; (repeat (first | exact hp | apply List.mem_cons_of_mem | apply List.mem_append_right)); done) | (repeat (first | exact in_nil | refine in_cons (by repeat (first | exact List.mem_cons_self | apply List.mem_cons_of_mem | apply List.mem_append_right)) ?_))) (by first | exact Le.refl _ | assumption | exact Le.trans ‹_› ‹_›) rfl ?_
              refine a_no (i := 14) (listed' := #[true, true, true, true, true, true, true, true, true, true, true, true, true, true, true, false, false, false, false, false, false, false]) rfl rfl rfl rfl rfl rfl (by kernel_rfl) (by kernel_rfl) (by kernel_rfl) rfl (by kernel_rfl) rfl (by repeat (first | exact np_post | refine np_then ?_ | refine np_in ?_)) (by first | (intro p hp; (repeat (first | exact hp | apply List.mem_cons_of_mem | apply List.mem_append_right)); done) | (repeat (first | exact in_nil | refine in_cons (by repeat (first | exact List.mem_cons_self | apply List.mem_cons_of_mem | apply List.mem_append_right)) ?_))) (by first | exact Le.refl _ | assumption | exact Le.trans ‹_› ‹_›) rfl ?_
              refine a_no (i := 15) (listed' := #[true, true, true, true, true, true, true, true, true, true, true, true, true, true, true, true, false, false, false, false, false, false]) rfl rfl rfl rfl rfl rfl (by kernel_rfl) (by kernel_rfl) (by kernel_rfl) rfl (by kernel_rfl) rfl (by repeat (first | exact np_post | refine np_then ?_ | refine np_in ?_)) (by first | (intro p hp; (repeat (first | exact hp | apply List.mem_cons_of_mem | apply List.mem_append_right)); done) | (repeat (first | exact in_nil | refine in_cons (by repeat (first | exact List.mem_cons_self | apply List.mem_cons_of_mem | apply List.mem_append_right)) ?_))) (by first | exact Le.refl _ | assumption | exact Le.trans ‹_› ‹_›) rfl ?_
              refine a_no (i := 16) (listed' := #[true, true, true, true, true, true, true, true, true, true, true, true, true, true, true, true, true, false, false, false, false, false]) rfl rfl rfl rfl rfl rfl (by kernel_rfl) (by kernel_rfl) (by kernel_rfl) rfl (by kernel_rfl) rfl (by repeat (first | exact np_post | refine np_then ?_ | refine np_in ?_)) (by first | (intro p hp; (repeat (first | exact hp | apply List.mem_cons_of_mem | apply List.mem_append_right)); done) | (repeat (first | exact in_nil | refine in_cons (by repeat (first | exact List.mem_cons_self | apply List.mem_cons_of_mem | apply List.mem_append_right)) ?_))) (by first | exact Le.refl _ | assumption | exact Le.trans ‹_› ‹_›) rfl ?_
              refine a_no (i := 17) (listed' := #[true, true, true, true, true, true, true, true, true, true, true, true, true, true, true, true, true, true, false, false, false, false]) rfl rfl rfl rfl rfl rfl (by kernel_rfl) (by kernel_rfl) (by kernel_rfl) rfl (by kernel_rfl) rfl (by repeat (first | exact np_post | refine np_then ?_ | refine np_in ?_)) (by first | (intro p hp; (repeat (first | exact hp | apply List.mem_cons_of_mem | apply List.mem_append_right)); done) | (repeat (first | exact in_nil | refine in_cons (by repeat (first | exact List.mem_cons_self | apply List.mem_cons_of_mem | apply List.mem_append_right)) ?_))) (by first | exact Le.refl _ | assumption | exact Le.trans ‹_› ‹_›) rfl ?_
              refine a_no (i := 18) (listed' := #[true, true, true, true, true, true, true, true, true, true, true, true, true, true, true, true, true, true, true, false, false, false]) rfl rfl rfl rfl rfl rfl (by kernel_rfl) (by kernel_rfl) (by kernel_rfl) rfl (by kernel_rfl) rfl (by repeat (first | exact np_post | refine np_then ?_ | refine np_in ?_)) (by first | (intro p hp; (repeat (first | exact hp | apply List.mem_cons_of_mem | apply List.mem_append_right)); done) | (repeat (first | exact in_nil | refine in_cons (by repeat (first | exact List.mem_cons_self | apply List.mem_cons_of_mem | apply List.mem_append_right)) ?_))) (by first | exact Le.refl _ | assumption | exact Le.trans ‹_› ‹_›) rfl ?_
              refine a_no (i := 19) (listed' := #[true, true, true, true, true, true, true, true, true, true, true, true, true, true, true, true, true, true, true, true, false, false]) rfl rfl rfl rfl rfl rfl (by kernel_rfl) (by kernel_rfl) (by kernel_rfl) rfl (by kernel_rfl) rfl (by repeat (first | exact np_post | refine np_then ?_ | refine np_in ?_)) (by first | (intro p hp; (repeat (first | exact hp | apply List.mem_cons_of_mem | apply List.mem_append_right)); done) | (repeat (first | exact in_nil | refine in_cons (by repeat (first | exact List.mem_cons_self | apply List.mem_cons_of_mem | apply List.mem_append_right)) ?_))) (by first | exact Le.refl _ | assumption | exact Le.trans ‹_› ‹_›) rfl ?_
              refine a_no (i := 20) (listed' := #[true, true, true, true, true, true, true, true, true, true, true, true, true, true, true, true, true, true, true, true, true, false]) rfl rfl rfl rfl rfl rfl (by kernel_rfl) (by kernel_rfl) (by kernel_rfl) rfl (by kernel_rfl) rfl (by repeat (first | exact np_post | refine np_then ?_ | refine np_in ?_)) (by first | (intro p hp; (repeat (first | exact hp | apply List.mem_cons_of_mem | apply List.mem_append_right)); done) | (repeat (first | exact in_nil | refine in_cons (by repeat (first | exact List.mem_cons_self | apply List.mem_cons_of_mem | apply List.mem_append_right)) ?_))) (by first | exact Le.refl _ | assumption | exact Le.trans ‹_› ‹_›) rfl ?_
              refine a_one (i := 21) (listed' := #[true, true, true, true, true, true, true, true, true, true, true, true, true, true, true, true, true, true, true, true, true, true]) rfl rfl (by kernel_rfl) rfl rfl (.inr ⟨(by first | (intro p hp; (repeat (first | exact hp | apply List.mem_cons_of_mem | apply List.mem_append_right)); done) | (repeat (first | exact in_nil | refine in_cons (by repeat (first | exact List.mem_cons_self | apply List.mem_cons_of_mem | apply List.mem_append_right)) ?_))), (by first | exact Le.refl _ | assumption | exact Le.trans ‹_› ‹_›)⟩) (e_val rfl (y_p rfl) ?_)
              refine a_done (by kernel_rfl) (by kernel_rfl) ?_
              refine q_then ?_
              refine w_condF rfl ?_
              refine w_skip ?_
              refine q_in ?_
              refine q_then ?_
              refine w_region ?_
              refine o_run rfl (e_val rfl (y_p rfl) ?_)
              refine o_run rfl (e_val rfl (y_subI rfl rfl (by omega)) ?_)
              refine o_run rfl (e_val rfl (y_p rfl) ?_)
              refine w_nil ?_
              refine PW.clear ?_
              refine q_round i (by omega) (by omega) ⟨rfl, rfl, rfl, rfl, rfl, ?_, rfl, trivial⟩ rfl rfl
              rw [hws, if_neg (fun h => by have := (hpx.1 h).1; omega)]
              rfl
          · refine w_exit ?_
            refine q_thenE ?_
            refine q_thenE ?_
            refine q_inE ?_
            refine q_then ?_
            refine w_seq ?_
            refine w_region ?_
            obtain rfl : x = 0 := by omega
            refine o_run rfl (e_val rfl (y_p rfl) ?_)
            refine o_run rfl (e_val rfl (y_p rfl) ?_)
            refine o_run rfl (e_val rfl (y_build pl37 rfl rfl) ?_)
            refine o_run rfl (e_call rfl rfl (c_Answer0 _ bo (rules2 kk bx) (gens4 kk) getN (pathL path ip) (pathL path ip) [] 0 nilV true hO20 (fun G => c_PathS G _ (by have := pathL_len path ip; omega) (pathL_target path ip) (bt_path path ip)) (by simp [rulesL]) hset SlAt.nil) (List.Perm.refl _) rfl (fun r26 F26 Γ26 hR26 hF26 => ?_))
            obtain ⟨ge, co, re, fv, ab, cb, bl, wa, cu, rfl, hSb, hfv, hw1, hw2, hw3⟩ := ans_sum hkk4 hR26
            refine PW.clear ?_
            refine o_run rfl (e_alloc ty34 rfl rfl (fun b16 => ?_))
            refine o_run rfl (e_st ty34 rfl rfl rfl rfl (by exact flat_reply hfv rfl) rfl ?_)
            refine w_nil ?_
            refine q_then ?_
            refine w_seq ?_
            refine w_seq ?_
            refine w_region ?_
            refine o_run rfl (e_val rfl (y_p rfl) ?_)
            refine o_run rfl (e_val rfl (y_p rfl) ?_)
            refine w_nil ?_
            refine q_then ?_
            first | refine w_condD rfl (fun h4 => ?_) (fun h4 => ?_) | refine w_condN rfl (fun h4 => ?_) (fun h4 => ?_) | refine w_cond rfl (fun h4 => ?_) (fun h4 => ?_)
            · refine w_seq ?_
              refine w_region ?_
              refine o_run rfl (e_val rfl (y_fa fo34_0 rfl) ?_)
              refine o_run rfl (e_val rfl (y_ld ty3 rfl rfl) ?_)
              obtain ⟨hn1, hn2, hn3⟩ := hw1 (by omega)
              subst hn2 hn3
              refine o_run rfl (e_val rfl (y_pe (.bool true) rfl (congrArg Value.bool (decide_eq_true hn1))) ?_)
              refine o_run rfl (e_val rfl (y_p rfl) ?_)
              refine o_yes rfl rfl rfl (e_val rfl (y_fa fo34_2 rfl) ?_)
              refine o_yes rfl rfl rfl (e_val rfl (y_fa fo32_1 rfl) ?_)
              refine o_yes rfl rfl rfl (e_val rfl (y_ld ty3 rfl rfl) ?_)
              refine o_yes rfl rfl rfl (e_val rfl (y_p (v := .bool true) rfl) ?_)
              refine o_run rfl (e_val rfl (y_p rfl) ?_)
              refine o_run rfl (e_val rfl (y_p rfl) ?_)
              refine o_yes rfl rfl rfl (e_val rfl (y_fa fo34_3 rfl) ?_)
              refine o_yes rfl rfl rfl (e_val rfl (y_ld ty22 rfl rfl) ?_)
              refine o_yes rfl rfl rfl (e_val rfl (y_lenL ty22 rfl) ?_)
              refine o_yes rfl rfl rfl (e_val rfl (y_p (v := .bool true) rfl) ?_)
              refine o_run rfl (e_val rfl (y_p rfl) ?_)
              refine o_run rfl (e_val rfl (y_p rfl) ?_)
              refine w_nil ?_
              refine q_then ?_
              refine w_ret ?_
              refine q_thenR ?_
              refine r_one rfl rfl ?_
              -- leaf 1
              rfl
            · refine w_skip ?_
              refine q_then ?_
              refine w_seq ?_
              refine w_seq ?_
              refine w_region ?_
              refine o_run rfl (e_val rfl (y_p rfl) ?_)
              refine o_run rfl (e_val rfl (y_p rfl) ?_)
              refine o_run rfl (e_val rfl (y_p rfl) ?_)
              refine w_nil ?_
              refine q_then ?_
              first | refine w_condD rfl (fun h5 => ?_) (fun h5 => ?_) | refine w_condN rfl (fun h5 => ?_) (fun h5 => ?_) | refine w_cond rfl (fun h5 => ?_) (fun h5 => ?_)
              · refine w_seq ?_
                refine w_region ?_
                refine o_run rfl (e_val rfl (y_fa fo34_0 rfl) ?_)
                refine o_run rfl (e_val rfl (y_ld ty3 rfl rfl) ?_)
                refine o_run rfl (e_val rfl (y_p rfl) ?_)
                obtain ⟨hn1, hn2⟩ := hw2 (by omega)
                subst hn1 hn2
                refine o_run rfl (e_val rfl (y_pe (.bool true) rfl (congrArg Value.bool (decide_eq_true (by omega)))) ?_)
                refine o_run rfl (e_val rfl (y_p rfl) ?_)
                refine o_yes rfl rfl rfl (e_val rfl (y_fa fo34_1 rfl) ?_)
                refine o_yes rfl rfl rfl (e_val rfl (y_ld ty3 rfl rfl) ?_)
                refine o_yes rfl rfl rfl (e_val rfl (y_p (v := .bool true) rfl) ?_)
                refine o_run rfl (e_val rfl (y_p rfl) ?_)
                refine o_run rfl (e_val rfl (y_p rfl) ?_)
                refine o_yes rfl rfl rfl (e_val rfl (y_fa fo34_3 rfl) ?_)
                refine o_yes rfl rfl rfl (e_val rfl (y_ld ty22 rfl rfl) ?_)
                refine o_yes rfl rfl rfl (e_val rfl (y_b2s ty22 ty9 ty5 rfl (Src.bytes hSb) ⟨_, _, _, rfl⟩) ?_)
                refine o_yes rfl rfl rfl (e_val rfl (y_p rfl) ?_)
                refine o_yes rfl rfl rfl (e_val rfl (y_b2s ty22 ty9 ty5 rfl (Src.bytes ((hbx.mono (hF015.trans (hF18.trans (hF19.trans hF20)))).mono hF26)) ⟨_, _, _, rfl⟩) ?_)
                refine o_yes rfl rfl rfl (e_val rfl (y_pe (.bool true) rfl (congrArg Value.bool (decide_eq_true rfl))) ?_)
                refine o_run rfl (e_val rfl (y_p rfl) ?_)
                refine o_run rfl (e_val rfl (y_p rfl) ?_)
                refine w_nil ?_
                refine q_then ?_
                refine w_ret ?_
                refine q_thenR ?_
                refine r_one rfl rfl ?_
                -- leaf 2
                rfl
              · refine w_skip ?_
                refine q_then ?_
                refine w_seq ?_
                refine w_drawA [0, 1, 2, 5, 6, 7, 8, 10, 11, 12, 13, 14, 15, 16, 17, 18, 20, 21, 22, 23, 24, 26, 27, 28, 29] mixed ?_
                obtain ⟨j, hj4, hwj, hn1, hn2, hn3, hn4⟩ := hw3 (by omega) (by omega)
                rw [hwj]
                have hgj : preL.getD j [] = preL[j]'hj4 := by rw [List.getD_eq_getElem?_getD, List.getElem?_eq_getElem (show j < preL.length from hj4)]; rfl
                rw [hgj] at hn2
                subst hn1 hn2 hn3 hn4
                refine a_val (i := 0) (listed' := #[true, false, false, false, false, false, false, false, false, false, false, false, false, false, false, false, false, false, false, false, false, false, false, false, false, false, false, false, false, false, false]) rfl rfl rfl (by kernel_rfl) (by kernel_rfl) (by kernel_rfl) rfl (by kernel_rfl) rfl (by repeat (first | exact np_post | refine np_then ?_ | refine np_in ?_)) (by first | (intro p hp; (repeat (first | exact hp | apply List.mem_cons_of_mem | apply List.mem_append_right)); done) | (repeat (first | exact in_nil | refine in_cons (by repeat (first | exact List.mem_cons_self | apply List.mem_cons_of_mem | apply List.mem_append_right)) ?_))) (by first | exact Le.refl _ | assumption | exact Le.trans ‹_› ‹_›) rfl (y_fa fo34_0 rfl) ?_
                refine a_val (i := 1) (listed' := #[true, true, false, false, false, false, false, false, false, false, false, false, false, false, false, false, false, false, false, false, false, false, false, false, false, false, false, false, false, false, false]) rfl rfl rfl (by kernel_rfl) (by kernel_rfl) (by kernel_rfl) rfl (by kernel_rfl) rfl (by repeat (first | exact np_post | refine np_then ?_ | refine np_in ?_)) (by first | (intro p hp; (repeat (first | exact hp | apply List.mem_cons_of_mem | apply List.mem_append_right)); done) | (repeat (first | exact in_nil | refine in_cons (by repeat (first | exact List.mem_cons_self | apply List.mem_cons_of_mem | apply List.mem_append_right)) ?_))) (by first | exact Le.refl _ | assumption | exact Le.trans ‹_› ‹_›) rfl (y_ld ty3 rfl rfl) ?_
                refine a_val (i := 2) (listed' := #[true, true, true, false, false, false, false, false, false, false, false, false, false, false, false, false, false, false, false, false, false, false, false, false, false, false, false, false, false, false, false]) rfl rfl rfl (by kernel_rfl) (by kernel_rfl) (by kernel_rfl) rfl (by kernel_rfl) rfl (by repeat (first | exact np_post | refine np_then ?_ | refine np_in ?_)) (by first | (intro p hp; (repeat (first | exact hp | apply List.mem_cons_of_mem | apply List.mem_append_right)); done) | (repeat (first | exact in_nil | refine in_cons (by repeat (first | exact List.mem_cons_self | apply List.mem_cons_of_mem | apply List.mem_append_right)) ?_))) (by first | exact Le.refl _ | assumption | exact Le.trans ‹_› ‹_›) rfl (y_p rfl) ?_
                refine a_one (i := 3) (listed' := #[true, true, true, true, false, false, false, false, false, false, false, false, false, false, false, false, false, false, false, false, false, false, false, false, false, false, false, false, false, false, false]) rfl rfl (by kernel_rfl) rfl rfl (.inr ⟨(by first | (intro p hp; (repeat (first | exact hp | apply List.mem_cons_of_mem | apply List.mem_append_right)); done) | (repeat (first | exact in_nil | refine in_cons (by repeat (first | exact List.mem_cons_self | apply List.mem_cons_of_mem | apply List.mem_append_right)) ?_))), (by first | exact Le.refl _ | assumption | exact Le.trans ‹_› ‹_›)⟩) (e_val rfl (y_pe (.bool true) rfl (congrArg Value.bool (decide_eq_true rfl))) ?_)
                refine a_one (i := 4) (listed' := #[true, true, true, true, true, false, false, false, false, false, false, false, false, false, false, false, false, false, false, false, false, false, false, false, false, false, false, false, false, false, false]) rfl rfl (by kernel_rfl) rfl rfl (.inr ⟨(by first | (intro p hp; (repeat (first | exact hp | apply List.mem_cons_of_mem | apply List.mem_append_right)); done) | (repeat (first | exact in_nil | refine in_cons (by repeat (first | exact List.mem_cons_self | apply List.mem_cons_of_mem | apply List.mem_append_right)) ?_))), (by first | exact Le.refl _ | assumption | exact Le.trans ‹_› ‹_›)⟩) (e_val rfl (y_p rfl) ?_)
                refine a_valG (i := 5) (listed' := #[true, true, true, true, true, true, false, false, false, false, false, false, false, false, false, false, false, false, false, false, false, false, false, false, false, false, false, false, false, false, false]) rfl rfl rfl rfl rfl (by kernel_rfl) (by kernel_rfl) (by kernel_rfl) rfl (by kernel_rfl) rfl (by repeat (first | exact np_post | refine np_then ?_ | refine np_in ?_)) (by first | (intro p hp; (repeat (first | exact hp | apply List.mem_cons_of_mem | apply List.mem_append_right)); done) | (repeat (first | exact in_nil | refine in_cons (by repeat (first | exact List.mem_cons_self | apply List.mem_cons_of_mem | apply List.mem_append_right)) ?_))) (by first | exact Le.refl _ | assumption | exact Le.trans ‹_› ‹_›) rfl (y_fa fo34_1 rfl) ?_
                refine a_valG (i := 6) (listed' := #[true, true, true, true, true, true, true, false, false, false, false, false, false, false, false, false, false, false, false, false, false, false, false, false, false, false, false, false, false, false, false]) rfl rfl rfl rfl rfl (by kernel_rfl) (by kernel_rfl) (by kernel_rfl) rfl (by kernel_rfl) rfl (by repeat (first | exact np_post | refine np_then ?_ | refine np_in ?_)) (by first | (intro p hp; (repeat (first | exact hp | apply List.mem_cons_of_mem | apply List.mem_append_right)); done) | (repeat (first | exact in_nil | refine in_cons (by repeat (first | exact List.mem_cons_self | apply List.mem_cons_of_mem | apply List.mem_append_right)) ?_))) (by first | exact Le.refl _ | assumption | exact Le.trans ‹_› ‹_›) rfl (y_ld ty3 rfl rfl) ?_
                refine a_valG (i := 7) (listed' := #[true, true, true, true, true, true, true, true, false, false, false, false, false, false, false, false, false, false, false, false, false, false, false, false, false, false, false, false, false, false, false]) rfl rfl rfl rfl rfl (by kernel_rfl) (by kernel_rfl) (by kernel_rfl) rfl (by kernel_rfl) rfl (by repeat (first | exact np_post | refine np_then ?_ | refine np_in ?_)) (by first | (intro p hp; (repeat (first | exact hp | apply List.mem_cons_of_mem | apply List.mem_append_right)); done) | (repeat (first | exact in_nil | refine in_cons (by repeat (first | exact List.mem_cons_self | apply List.mem_cons_of_mem | apply List.mem_append_right)) ?_))) (by first | exact Le.refl _ | assumption | exact Le.trans ‹_› ‹_›) rfl (y_p (v := .bool true) rfl) ?_
                refine a_val (i := 8) (listed' := #[true, true, true, true, true, true, true, true, true, false, false, false, false, false, false, false, false, false, false, false, false, false, false, false, false, false, false, false, false, false, false]) rfl rfl rfl (by kernel_rfl) (by kernel_rfl) (by kernel_rfl) rfl (by kernel_rfl) rfl (by repeat (first | exact np_post | refine np_then ?_ | refine np_in ?_)) (by first | (intro p hp; (repeat (first | exact hp | apply List.mem_cons_of_mem | apply List.mem_append_right)); done) | (repeat (first | exact in_nil | refine in_cons (by repeat (first | exact List.mem_cons_self | apply List.mem_cons_of_mem | apply List.mem_append_right)) ?_))) (by first | exact Le.refl _ | assumption | exact Le.trans ‹_› ‹_›) rfl (y_p rfl) ?_
                refine a_one (i := 9) (listed' := #[true, true, true, true, true, true, true, true, true, true, false, false, false, false, false, false, false, false, false, false, false, false, false, false, false, false, false, false, false, false, false]) rfl rfl (by kernel_rfl) rfl rfl (.inr ⟨(by first | (intro p hp; (repeat (first | exact hp | apply List.mem_cons_of_mem | apply List.mem_append_right)); done) | (repeat (first | exact in_nil | refine in_cons (by repeat (first | exact List.mem_cons_self | apply List.mem_cons_of_mem | apply List.mem_append_right)) ?_))), (by first | exact Le.refl _ | assumption | exact Le.trans ‹_› ‹_›)⟩) (e_val rfl (y_p rfl) ?_)
                refine a_valG (i := 10) (listed' := #[true, true, true, true, true, true, true, true, true, true, true, false, false, false, false, false, false, false, false, false, false, false, false, false, false, false, false, false, false, false, false]) rfl rfl rfl rfl rfl (by kernel_rfl) (by kernel_rfl) (by kernel_rfl) rfl (by kernel_rfl) rfl (by repeat (first | exact np_post | refine np_then ?_ | refine np_in ?_)) (by first | (intro p hp; (repeat (first | exact hp | apply List.mem_cons_of_mem | apply List.mem_append_right)); done) | (repeat (first | exact in_nil | refine in_cons (by repeat (first | exact List.mem_cons_self | apply List.mem_cons_of_mem | apply List.mem_append_right)) ?_))) (by first | exact Le.refl _ | assumption | exact Le.trans ‹_› ‹_›) rfl (y_fa fo34_3 rfl) ?_
                refine a_valG (i := 11) (listed' := #[true, true, true, true, true, true, true, true, true, true, true, true, false, false, false, false, false, false, false, false, false, false, false, false, false, false, false, false, false, false, false]) rfl rfl rfl rfl rfl (by kernel_rfl) (by kernel_rfl) (by kernel_rfl) rfl (by kernel_rfl) rfl (by repeat (first | exact np_post | refine np_then ?_ | refine np_in ?_)) (by first | (intro p hp; (repeat (first | exact hp | apply List.mem_cons_of_mem | apply List.mem_append_right)); done) | (repeat (first | exact in_nil | refine in_cons (by repeat (first | exact List.mem_cons_self | apply List.mem_cons_of_mem | apply List.mem_append_right)) ?_))) (by first | exact Le.refl _ | assumption | exact Le.trans ‹_› ‹_›) rfl (y_ld ty22 rfl rfl) ?_
                refine a_valG (i := 12) (listed' := #[true, true, true, true, true, true, true, true, true, true, true, true, true, false, false, false, false, false, false, false, false, false, false, false, false, false, false, false, false, false, false]) rfl rfl rfl rfl rfl (by kernel_rfl) (by kernel_rfl) (by kernel_rfl) rfl (by kernel_rfl) rfl (by repeat (first | exact np_post | refine np_then ?_ | refine np_in ?_)) (by first | (intro p hp; (repeat (first | exact hp | apply List.mem_cons_of_mem | apply List.mem_append_right)); done) | (repeat (first | exact in_nil | refine in_cons (by repeat (first | exact List.mem_cons_self | apply List.mem_cons_of_mem | apply List.mem_append_right)) ?_))) (by first | exact Le.refl _ | assumption | exact Le.trans ‹_› ‹_›) rfl (y_b2s ty22 ty9 ty5 rfl (Src.bytes hSb) ⟨_, _, _, rfl⟩) ?_
                refine a_valG (i := 13) (listed' := #[true, true, true, true, true, true, true, true, true, true, true, true, true, true, false, false, false, false, false, false, false, false, false, false, false, false, false, false, false, false, false]) rfl rfl rfl rfl rfl (by kernel_rfl) (by kernel_rfl) (by kernel_rfl) rfl (by kernel_rfl) rfl (by repeat (first | exact np_post | refine np_then ?_ | refine np_in ?_)) (by first | (intro p hp; (repeat (first | exact hp | apply List.mem_cons_of_mem | apply List.mem_append_right)); done) | (repeat (first | exact in_nil | refine in_cons (by repeat (first | exact List.mem_cons_self | apply List.mem_cons_of_mem | apply List.mem_append_right)) ?_))) (by first | exact Le.refl _ | assumption | exact Le.trans ‹_› ‹_›) rfl (y_p rfl) ?_
                refine a_valG (i := 14) (listed' := #[true, true, true, true, true, true, true, true, true, true, true, true, true, true, true, false, false, false, false, false, false, false, false, false, false, false, false, false, false, false, false]) rfl rfl rfl rfl rfl (by kernel_rfl) (by kernel_rfl) (by kernel_rfl) rfl (by kernel_rfl) rfl (by repeat (first | exact np_post | refine np_then ?_ | refine np_in ?_)) (by first | (intro p hp; (repeat (first | exact hp | apply List.mem_cons_of_mem | apply List.mem_append_right)); done) | (repeat (first | exact in_nil | refine in_cons (by repeat (first | exact List.mem_cons_self | apply List.mem_cons_of_mem | apply List.mem_append_right)) ?_))) (by first | exact Le.refl _ | assumption | exact Le.trans ‹_› ‹_›) rfl (y_p rfl) ?_
                refine a_valG (i := 15) (listed' := #[true, true, true, true, true, true, true, true, true, true, true, true, true, true, true, true, false, false, false, false, false, false, false, false, false, false, false, false, false, false, false]) rfl rfl rfl rfl rfl (by kernel_rfl) (by kernel_rfl) (by kernel_rfl) rfl (by kernel_rfl) rfl (by repeat (first | exact np_post | refine np_then ?_ | refine np_in ?_)) (by first | (intro p hp; (repeat (first | exact hp | apply List.mem_cons_of_mem | apply List.mem_append_right)); done) | (repeat (first | exact in_nil | refine in_cons (by repeat (first | exact List.mem_cons_self | apply List.mem_cons_of_mem | apply List.mem_append_right)) ?_))) (by first | exact Le.refl _ | assumption | exact Le.trans ‹_› ‹_›) rfl (y_ia ty40 ty9 rfl rfl (by omega)) ?_
                refine a_valG (i := 16) (listed' := #[true, true, true, true, true, true, true, true, true, true, true, true, true, true, true, true, true, false, false, false, false, false, false, false, false, false, false, false, false, false, false]) rfl rfl rfl rfl rfl (by kernel_rfl) (by kernel_rfl) (by kernel_rfl) rfl (by kernel_rfl) rfl (by repeat (first | exact np_post | refine np_then ?_ | refine np_in ?_)) (by first | (intro p hp; (repeat (first | exact hp | apply List.mem_cons_of_mem | apply List.mem_append_right)); done) | (repeat (first | exact in_nil | refine in_cons (by repeat (first | exact List.mem_cons_self | apply List.mem_cons_of_mem | apply List.mem_append_right)) ?_))) (by first | exact Le.refl _ | assumption | exact Le.trans ‹_› ‹_›) rfl (y_ldC ty9 rfl (hC9.mono (hF1_20.trans hF26)) (ld_fm1 (f := str) preL hj4)) ?_
                refine a_valG (i := 17) (listed' := #[true, true, true, true, true, true, true, true, true, true, true, true, true, true, true, true, true, true, false, false, false, false, false, false, false, false, false, false, false, false, false]) rfl rfl rfl rfl rfl (by kernel_rfl) (by kernel_rfl) (by kernel_rfl) rfl (by kernel_rfl) rfl (by repeat (first | exact np_post | refine np_then ?_ | refine np_in ?_)) (by first | (intro p hp; (repeat (first | exact hp | apply List.mem_cons_of_mem | apply List.mem_append_right)); done) | (repeat (first | exact in_nil | refine in_cons (by repeat (first | exact List.mem_cons_self | apply List.mem_cons_of_mem | apply List.mem_append_right)) ?_))) (by first | exact Le.refl _ | assumption | exact Le.trans ‹_› ‹_›) rfl (y_pe (.bool true) rfl (congrArg Value.bool (decide_eq_true rfl))) ?_
                refine a_val (i := 18) (listed' := #[true, true, true, true, true, true, true, true, true, true, true, true, true, true, true, true, true, true, true, false, false, false, false, false, false, false, false, false, false, false, false]) rfl rfl rfl (by kernel_rfl) (by kernel_rfl) (by kernel_rfl) rfl (by kernel_rfl) rfl (by repeat (first | exact np_post | refine np_then ?_ | refine np_in ?_)) (by first | (intro p hp; (repeat (first | exact hp | apply List.mem_cons_of_mem | apply List.mem_append_right)); done) | (repeat (first | exact in_nil | refine in_cons (by repeat (first | exact List.mem_cons_self | apply List.mem_cons_of_mem | apply List.mem_append_right)) ?_))) (by first | exact Le.refl _ | assumption | exact Le.trans ‹_› ‹_›) rfl (y_p rfl) ?_
                refine a_one (i := 19) (listed' := #[true, true, true, true, true, true, true, true, true, true, true, true, true, true, true, true, true, true, true, true, false, false, false, false, false, false, false, false, false, false, false]) rfl rfl (by kernel_rfl) rfl rfl (.inr ⟨(by first | (intro p hp; (repeat (first | exact hp | apply List.mem_cons_of_mem | apply List.mem_append_right)); done) | (repeat (first | exact in_nil | refine in_cons (by repeat (first | exact List.mem_cons_self | apply List.mem_cons_of_mem | apply List.mem_append_right)) ?_))), (by first | exact Le.refl _ | assumption | exact Le.trans ‹_› ‹_›)⟩) (e_val rfl (y_p rfl) ?_)
                refine a_valG (i := 20) (listed' := #[true, true, true, true, true, true, true, true, true, true, true, true, true, true, true, true, true, true, true, true, true, false, false, false, false, false, false, false, false, false, false]) rfl rfl rfl rfl rfl (by kernel_rfl) (by kernel_rfl) (by kernel_rfl) rfl (by kernel_rfl) rfl (by repeat (first | exact np_post | refine np_then ?_ | refine np_in ?_)) (by first | (intro p hp; (repeat (first | exact hp | apply List.mem_cons_of_mem | apply List.mem_append_right)); done) | (repeat (first | exact in_nil | refine in_cons (by repeat (first | exact List.mem_cons_self | apply List.mem_cons_of_mem | apply List.mem_append_right)) ?_))) (by first | exact Le.refl _ | assumption | exact Le.trans ‹_› ‹_›) rfl (y_fa fo34_4 rfl) ?_
                refine a_valG (i := 21) (listed' := #[true, true, true, true, true, true, true, true, true, true, true, true, true, true, true, true, true, true, true, true, true, true, false, false, false, false, false, false, false, false, false]) rfl rfl rfl rfl rfl (by kernel_rfl) (by kernel_rfl) (by kernel_rfl) rfl (by kernel_rfl) rfl (by repeat (first | exact np_post | refine np_then ?_ | refine np_in ?_)) (by first | (intro p hp; (repeat (first | exact hp | apply List.mem_cons_of_mem | apply List.mem_append_right)); done) | (repeat (first | exact in_nil | refine in_cons (by repeat (first | exact List.mem_cons_self | apply List.mem_cons_of_mem | apply List.mem_append_right)) ?_))) (by first | exact Le.refl _ | assumption | exact Le.trans ‹_› ‹_›) rfl (y_ld ty3 rfl rfl) ?_
                refine a_valG (i := 22) (listed' := #[true, true, true, true, true, true, true, true, true, true, true, true, true, true, true, true, true, true, true, true, true, true, true, false, false, false, false, false, false, false, false]) rfl rfl rfl rfl rfl (by kernel_rfl) (by kernel_rfl) (by kernel_rfl) rfl (by kernel_rfl) rfl (by repeat (first | exact np_post | refine np_then ?_ | refine np_in ?_)) (by first | (intro p hp; (repeat (first | exact hp | apply List.mem_cons_of_mem | apply List.mem_append_right)); done) | (repeat (first | exact in_nil | refine in_cons (by repeat (first | exact List.mem_cons_self | apply List.mem_cons_of_mem | apply List.mem_append_right)) ?_))) (by first | exact Le.refl _ | assumption | exact Le.trans ‹_› ‹_›) rfl (y_p rfl) ?_
                refine a_valG (i := 23) (listed' := #[true, true, true, true, true, true, true, true, true, true, true, true, true, true, true, true, true, true, true, true, true, true, true, true, false, false, false, false, false, false, false]) rfl rfl rfl rfl rfl (by kernel_rfl) (by kernel_rfl) (by kernel_rfl) rfl (by kernel_rfl) rfl (by repeat (first | exact np_post | refine np_then ?_ | refine np_in ?_)) (by first | (intro p hp; (repeat (first | exact hp | apply List.mem_cons_of_mem | apply List.mem_append_right)); done) | (repeat (first | exact in_nil | refine in_cons (by repeat (first | exact List.mem_cons_self | apply List.mem_cons_of_mem | apply List.mem_append_right)) ?_))) (by first | exact Le.refl _ | assumption | exact Le.trans ‹_› ‹_›) rfl (y_pe (.bool true) rfl (congrArg Value.bool (decide_eq_true rfl))) ?_
                refine a_val (i := 24) (listed' := #[true, true, true, true, true, true, true, true, true, true, true, true, true, true, true, true, true, true, true, true, true, true, true, true, true, false, false, false, false, false, false]) rfl rfl rfl (by kernel_rfl) (by kernel_rfl) (by kernel_rfl) rfl (by kernel_rfl) rfl (by repeat (first | exact np_post | refine np_then ?_ | refine np_in ?_)) (by first | (intro p hp; (repeat (first | exact hp | apply List.mem_cons_of_mem | apply List.mem_append_right)); done) | (repeat (first | exact in_nil | refine in_cons (by repeat (first | exact List.mem_cons_self | apply List.mem_cons_of_mem | apply List.mem_append_right)) ?_))) (by first | exact Le.refl _ | assumption | exact Le.trans ‹_› ‹_›) rfl (y_p rfl) ?_
                refine a_one (i := 25) (listed' := #[true, true, true, true, true, true, true, true, true, true, true, true, true, true, true, true, true, true, true, true, true, true, true, true, true, true, false, false, false, false, false]) rfl rfl (by kernel_rfl) rfl rfl (.inr ⟨(by first | (intro p hp; (repeat (first | exact hp | apply List.mem_cons_of_mem | apply List.mem_append_right)); done) | (repeat (first | exact in_nil | refine in_cons (by repeat (first | exact List.mem_cons_self | apply List.mem_cons_of_mem | apply List.mem_append_right)) ?_))), (by first | exact Le.refl _ | assumption | exact Le.trans ‹_› ‹_›)⟩) (e_val rfl (y_p rfl) ?_)
                refine a_valG (i := 26) (listed' := #[true, true, true, true, true, true, true, true, true, true, true, true, true, true, true, true, true, true, true, true, true, true, true, true, true, true, true, false, false, false, false]) rfl rfl rfl rfl rfl (by kernel_rfl) (by kernel_rfl) (by kernel_rfl) rfl (by kernel_rfl) rfl (by repeat (first | exact np_post | refine np_then ?_ | refine np_in ?_)) (by first | (intro p hp; (repeat (first | exact hp | apply List.mem_cons_of_mem | apply List.mem_append_right)); done) | (repeat (first | exact in_nil | refine in_cons (by repeat (first | exact List.mem_cons_self | apply List.mem_cons_of_mem | apply List.mem_append_right)) ?_))) (by first | exact Le.refl _ | assumption | exact Le.trans ‹_› ‹_›) rfl (y_fa fo34_5 rfl) ?_
                refine a_valG (i := 27) (listed' := #[true, true, true, true, true, true, true, true, true, true, true, true, true, true, true, true, true, true, true, true, true, true, true, true, true, true, true, true, false, false, false]) rfl rfl rfl rfl rfl (by kernel_rfl) (by kernel_rfl) (by kernel_rfl) rfl (by kernel_rfl) rfl (by repeat (first | exact np_post | refine np_then ?_ | refine np_in ?_)) (by first | (intro p hp; (repeat (first | exact hp | apply List.mem_cons_of_mem | apply List.mem_append_right)); done) | (repeat (first | exact in_nil | refine in_cons (by repeat (first | exact List.mem_cons_self | apply List.mem_cons_of_mem | apply List.mem_append_right)) ?_))) (by first | exact Le.refl _ | assumption | exact Le.trans ‹_› ‹_›) rfl (y_ld ty3 rfl rfl) ?_
                refine a_valG (i := 28) (listed' := #[true, true, true, true, true, true, true, true, true, true, true, true, true, true, true, true, true, true, true, true, true, true, true, true, true, true, true, true, true, false, false]) rfl rfl rfl rfl rfl (by kernel_rfl) (by kernel_rfl) (by kernel_rfl) rfl (by kernel_rfl) rfl (by repeat (first | exact np_post | refine np_then ?_ | refine np_in ?_)) (by first | (intro p hp; (repeat (first | exact hp | apply List.mem_cons_of_mem | apply List.mem_append_right)); done) | (repeat (first | exact in_nil | refine in_cons (by repeat (first | exact List.mem_cons_self | apply List.mem_cons_of_mem | apply List.mem_append_right)) ?_))) (by first | exact Le.refl _ | assumption | exact Le.trans ‹_› ‹_›) rfl (y_p (v := .bool true) rfl) ?_
                refine a_val (i := 29) (listed' := #[true, true, true, true, true, true, true, true, true, true, true, true, true, true, true, true, true, true, true, true, true, true, true, true, true, true, true, true, true, true, false]) rfl rfl rfl (by kernel_rfl) (by kernel_rfl) (by kernel_rfl) rfl (by kernel_rfl) rfl (by repeat (first | exact np_post | refine np_then ?_ | refine np_in ?_)) (by first | (intro p hp; (repeat (first | exact hp | apply List.mem_cons_of_mem | apply List.mem_append_right)); done) | (repeat (first | exact in_nil | refine in_cons (by repeat (first | exact List.mem_cons_self | apply List.mem_cons_of_mem | apply List.mem_append_right)) ?_))) (by first | exact Le.refl _ | assumption | exact Le.trans ‹_› ‹_›) rfl (y_p rfl) ?_
                refine a_one (i := 30) (listed' := #[true, true, true, true, true, true, true, true, true, true, true, true, true, true, true, true, true, true, true, true, true, true, true, true, true, true, true, true, true, true, true]) rfl rfl (by kernel_rfl) rfl rfl (.inr ⟨(by first | (intro p hp; (repeat (first | exact hp | apply List.mem_cons_of_mem | apply List.mem_append_right)); done) | (repeat (first | exact in_nil | refine in_cons (by repeat (first | exact List.mem_cons_self | apply List.mem_cons_of_mem | apply List.mem_append_right)) ?_))), (by first | exact Le.refl _ | assumption | exact Le.trans ‹_› ‹_›)⟩) (e_val rfl (y_p rfl) ?_)
                refine a_done (by kernel_rfl) (by kernel_rfl) ?_
                refine q_then ?_
                refine w_ret ?_
                refine r_one rfl rfl ?_
                -- leaf 3
                rfl

end Go.SL
