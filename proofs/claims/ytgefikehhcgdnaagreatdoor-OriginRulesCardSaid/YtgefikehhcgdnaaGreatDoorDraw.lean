/- Regions that draw their order. No condition. -/
import Derived.Test.YtgefikehhcgdnaaGreatDoorMore
import Derived.Orders
namespace Go.SL

section
variable {P : Program} {ops : Array Oper} {Q : Exit → Act → World → Prop} {C : World → Prop} {L : List Nat}

/-- Whether operation j waits for operation i. -/
def dep (ops : Array Oper) (i j : Nat) : Bool := match ops[j]? with
  | some o => o.after.any fun e => Region.binds .any e && e.on == i
  | none => false

/-- Whether one of the operations L may still be to come in some order. -/
def pend (ops : Array Oper) (L : List Nat) (listed : Array Bool) : Bool := L.any fun l => !(List.range ops.size).any fun j => listed.getD j false && dep ops l j

/-- Whatever order is picked, C holds as long as an operation of L may be to come. -/
def wpAnyC (P : Program) (ops : Array Oper) (Q : Exit → Act → World → Prop) (C : World → Prop) (L : List Nat) : Nat → Array Bool → Act → World → Prop
  | 0, listed, a, w => (pend ops L listed = true → C w) ∧ Region.ready .any ops listed = [] ∧ Q .normal a w
  | fuel + 1, listed, a, w => (pend ops L listed = true → C w) ∧ (Region.ready .any ops listed = [] → Q .normal a w) ∧
    ∀ i ∈ Region.ready .any ops listed, wpOp P ops Q i (wpAnyC P ops Q C L fuel (listed.setIfInBounds i true)) a w

theorem wpAnyC.holds {fuel : Nat} {listed : Array Bool} {a : Act} {w : World} (h : wpAnyC P ops Q C L fuel listed a w) : pend ops L listed = true → C w := by
  cases fuel <;> exact h.1

theorem wpAny_of_C : ∀ (fuel : Nat) (listed : Array Bool) (a : Act) (w : World), wpAnyC P ops Q C L fuel listed a w → wpAny P .any ops Q fuel listed a w
  | 0, _, _, _, h => h.2
  | fuel + 1, _, _, _, h => ⟨h.2.1, fun i hi => wpOp_mono (fun a w => wpAny_of_C fuel _ a w) (h.2.2 i hi)⟩

/-- In the state a, in every world of C, the operation yields v and leaves the world. -/
def YieldsC (P : Program) (ops : Array Oper) (C : World → Prop) (o : Oper) (v : Value) (a : Act) : Prop :=
  (Region.wanted o (yielded ops a.tmps) = true ∧ ∀ w, C w → (execOp a.eval o).run P w = .ok (.value v) w) ∨
  (Region.wanted o (yielded ops a.tmps) = false ∧ v = undef)

theorem YieldsC.of_same {o : Oper} {v : Value} {a a' : Act} (hy : YieldsC P ops C o v a) (he : execOp a'.eval o = execOp a.eval o)
    (hw : Region.wanted o (yielded ops a'.tmps) = Region.wanted o (yielded ops a.tmps)) : YieldsC P ops C o v a' := by
  unfold YieldsC at *
  rw [he, hw]
  exact hy

theorem YieldsC.wpOp {i : Nat} {o : Oper} {v : Value} {a : Act} (hi : ops[i]? = some o) (hy : YieldsC P ops C o v a)
    {K : Act → World → Prop} {w : World} (hC : C w) (h : K (a.put o.dst v) w) : wpOp P ops Q i K a w := by
  unfold Go.wpOp
  simp only [hi]
  rcases hy with ⟨hw, hv⟩ | ⟨hw, rfl⟩
  · simp only [hw, if_true, Oper.wp, hv w hC, Oper.upon]; exact .inl h
  · simp only [hw, Bool.false_eq_true, if_false]; exact h

theorem wpOp_putC {j : Nat} {oi oj : Oper} {v : Value} (hj : ops[j]? = some oj) (hap : oi.apart ops oj = true)
    (hsi : ∀ cs b, oi.op ≠ .select cs b) (hsj : ∀ cs b, oj.op ≠ .select cs b)
    (hQ : ∀ c a w, Q (.panic c) (a.put oi.dst v) w → Q (.panic c) a w) {K : Act → World → Prop} {a : Act} {w : World}
    (hy : YieldsC P ops C oi v a) (h : wpOp P ops Q j K (a.put oi.dst v) w) :
    wpOp P ops Q j (fun a' w' => YieldsC P ops C oi v a' ∧ K (a'.put oi.dst v) w') a w := by
  obtain ⟨h1, h2, h3⟩ := Oper.apart_spec hap
  have keep : ∀ (a : Act), YieldsC P ops C oi v a → ∀ u, YieldsC P ops C oi v (a.put oj.dst u) := fun a hy u =>
    hy.of_same (execOp_put oi hsi a oj.dst u h3) (wanted_put oi a oj.dst u h3)
  have keepD : ∀ d, YieldsC P ops C oi v { a with defers := d :: a.defers } := fun d => hy.of_same rfl rfl
  unfold wpOp at *
  simp only [hj] at *
  rw [wanted_put oj a oi.dst v h1] at h
  split
  · rename_i hw
    simp only [hw, if_true] at h
    rcases h with h | ⟨hasks, hlets⟩
    case inr => exact .inr ⟨by unfold Oper.asks at *; rw [execOp_put oj hsj a oi.dst v h1] at hasks; exact hasks, hlets⟩
    refine .inl ?_
    unfold Oper.wp at *
    rw [execOp_put oj hsj a oi.dst v h1] at h
    generalize (execOp a.eval oj).run P w = r at *
    cases r with
    | ok n w' =>
      cases n <;> simp only [Oper.upon] at h ⊢
      case value u => exact ⟨keep a hy u, by rw [← Act.put_comm a v u h2]; exact h⟩
      case skip => exact ⟨keep a hy _, by rw [← Act.put_comm a v undef h2]; exact h⟩
      case defer d =>
        refine ⟨keep _ (keepD d) _, ?_⟩
        rw [← Act.put_comm _ v undef h2, ← Act.put_defers]
        exact h
      case enter f args =>
        refine Calls.mono h fun e w'' he => ?_
        cases e with
        | returned u => exact ⟨keep a hy u, by rw [← Act.put_comm a v u h2]; exact he⟩
        | panicked c => exact hQ _ _ _ he
        | outgrown => exact he
      case row row args => exact Rows.mono h fun u w'' he => ⟨keep a hy u, by rw [← Act.put_comm a v u h2]; exact he⟩
    | halt x w' =>
      cases x <;> simp only [Oper.upon] at h ⊢
      case panic u => exact hQ _ _ _ h
  · rename_i hw
    simp only [hw] at h
    exact ⟨keep a hy _, by rw [← Act.put_comm a v undef h2]; exact h⟩

theorem pend_of {i : Nat} {listed : Array Bool} (hi : i ∈ L) (hu : ∀ k, listed.getD k false = true → dep ops i k = false) : pend ops L listed = true := by
  unfold pend
  rw [List.any_eq_true]
  refine ⟨i, hi, ?_⟩
  rw [Bool.not_eq_true', List.any_eq_false]
  intro k hk h
  simp only [Bool.and_eq_true] at h
  rw [hu k h.1] at h
  exact absurd h.2 (by simp)

theorem getD_set {listed : Array Bool} {i k : Nat} (h : (listed.setIfInBounds i true).getD k false = true) : k = i ∨ listed.getD k false = true := by
  by_cases hik : i = k
  · exact .inl hik.symm
  · rw [getD_set_ne false hik] at h; exact .inr h

theorem dep_false {i j : Nat} {oj : Oper} (hj : ops[j]? = some oj) (h : ∀ e ∈ oj.after, Region.binds .any e = true → e.on ≠ i) : dep ops i j = false := by
  unfold dep
  rw [hj]
  simp only
  rw [Array.any_eq_false']
  intro e he hh
  simp only [Bool.and_eq_true, beq_iff_eq] at hh
  exact h e he hh.1 hh.2

theorem unlisted {i : Nat} {listed : Array Bool} (hr : i ∈ Region.ready .any ops listed) : listed.getD i false = false := by
  have h0 := (mem_ready.1 hr).1
  rcases Nat.lt_or_ge i listed.size with h' | h'
  · simp [h'] at h0 ⊢; exact h0
  · simp [Array.getElem?_eq_none h'] at h0

theorem wpAnyC_first {i : Nat} {oi : Oper} {v : Value} (hiL : i ∈ L) (hi : ops[i]? = some oi) (hsel : ∀ (j : Nat) (o : Oper) cs b, ops[j]? = some o → o.op ≠ .select cs b)
    (hQ : ∀ c a w, Q (.panic c) (a.put oi.dst v) w → Q (.panic c) a w) :
    ∀ (fuel : Nat) (listed : Array Bool) (a : Act) (w : World),
      (∀ j oj, ops[j]? = some oj → j ≠ i → listed.getD j true = false → (∀ e ∈ oj.after, Region.binds .any e = true → e.on ≠ i) → oi.apart ops oj = true) →
      (∀ k, listed.getD k false = true → dep ops i k = false) →
      i ∈ Region.ready .any ops listed → YieldsC P ops C oi v a → C w →
      wpAnyC P ops Q C L fuel (listed.setIfInBounds i true) (a.put oi.dst v) w → wpAnyC P ops Q C L (fuel + 1) listed a w := by
  intro fuel
  induction fuel with
  | zero =>
    intro listed a w _ _ hr hy hC H
    refine ⟨fun _ => hC, fun h => (by rw [h] at hr; cases hr), fun j hj => ?_⟩
    by_cases hji : j = i
    · subst hji; exact hy.wpOp hi hC H
    · have := ready_mono hj hji
      rw [H.2.1] at this
      cases this
  | succ fuel ih =>
    intro listed a w hfree hno hr hy hC H
    refine ⟨fun _ => hC, fun h => (by rw [h] at hr; cases hr), fun j hj => ?_⟩
    by_cases hji : j = i
    · subst hji; exact hy.wpOp hi hC H
    · have h1 := H.2.2 j (ready_mono hj hji)
      obtain ⟨hjun, oj, hoj, hall⟩ := mem_ready.1 hj
      have hnot : ∀ e ∈ oj.after, Region.binds .any e = true → e.on ≠ i := fun e he hb heq => by
        have h1 := hall e he hb
        rw [heq, unlisted hr] at h1
        cases h1
      have h2 := wpOp_putC hoj (hfree j oj hoj hji hjun hnot) (fun cs b => hsel i oi cs b hi) (fun cs b => hsel j oj cs b hoj) hQ hy h1
      have hfree' : ∀ k ok, ops[k]? = some ok → k ≠ i → (listed.setIfInBounds j true).getD k true = false →
          (∀ e ∈ ok.after, Region.binds .any e = true → e.on ≠ i) → oi.apart ops ok = true := fun k ok hk hki hun hno => by
        refine hfree k ok hk hki ?_ hno
        by_cases hjk : j = k
        · subst hjk; exact hjun
        · rw [getD_set_ne true hjk] at hun; exact hun
      have hr' := ready_mono hr (Ne.symm hji)
      have hno' : ∀ k, (listed.setIfInBounds j true).getD k false = true → dep ops i k = false := fun k hk => by
        rcases getD_set hk with rfl | hk
        · exact dep_false hoj hnot
        · exact hno k hk
      refine wpOp_mono (fun a' w' h3 => ?_) h2
      have hcomm := h3.2
      rw [Array.setIfInBounds_comm _ _ (Ne.symm hji)] at hcomm
      have hpend : pend ops L ((listed.setIfInBounds j true).setIfInBounds i true) = true := pend_of hiL fun k hk => by
        rcases getD_set hk with rfl | hk
        · obtain ⟨_, o, ho, hall'⟩ := mem_ready.1 hr
          exact dep_false (oj := o) ho fun e he hb heq => by
            have := hall' e he hb
            rw [heq, unlisted hr] at this
            cases this
        · exact hno' k hk
      exact ih (listed.setIfInBounds j true) a' w' hfree' hno' hr' h3.1 (hcomm.holds hpend) hcomm
end

section
variable {P : Program} {X : Cx} {n : Nat} {ρ : Regs} {F Fc : FH} {Γ Δ : Blks} {Q : Exit → Act → World → Prop} {ops : Array Oper} {L : List Nat} {fuel : Nat} {listed listed' : Array Bool}

def In' (Δ Γ : Blks) : Prop := ∀ p ∈ Δ, p ∈ Γ

theorem hp_of {w : World} (hw : Holds X F Γ w) (hΔ : In' Δ Γ) (hF : Le Fc F) : Hp Fc Δ w := ⟨fun b o h => hw.fr b o (hF b o h), fun p hp => hw.own p (hΔ p hp)⟩

/-- A region that draws its order: with what is held (Fc, Δ) while the operations L are to come. -/
theorem w_draw {i : Nat} (Δ : Blks) (L : List Nat) (hm : P.follows .mixedOrders = true) (h : PW X n ρ F Γ (wpAnyC P ops Q (Hp F Δ) L ops.size (Array.replicate ops.size false))) :
    PW X n ρ F Γ ((Code.region i ops true).wp P Q) :=
  fun a w ha hw => wp_region_any hm (wpAny_of_C _ _ _ _ (h a _ ha (hw.drawn _)))

theorem w_drawA {i : Nat} (L : List Nat) (hm : P.follows .mixedOrders = true) (h : PW X n ρ F Γ (wpAnyC P ops Q (Hp F Γ) L ops.size (Array.replicate ops.size false))) :
    PW X n ρ F Γ ((Code.region i ops true).wp P Q) := w_draw Γ L hm h

/-- One that yields a value, taken first. -/
theorem a_val {i d : Nat} {op : Op} {ty : TypeId} {pos : String} {af : Array Edge} {v : Value} (i' : i = i) (hi : ops[i]? = some ⟨some d, op, ty, pos, af, none⟩) (hiL : L.contains i = true) (hs : Region.noSelect ops = true)
    (hf : Region.free .any ops listed i = true) (hno : ((List.range ops.size).all fun k => !(listed.getD k false && dep ops i k)) = true) (hlz : listed.size = ops.size) (hr : (Region.ready .any ops listed).contains i = true)
    (hl : listed.setIfInBounds i true = listed') (hQ : ∀ c a w, ¬ Q (.panic c) a w) (hΔ : In' Δ Γ) (hF : Le Fc F) (hd : Nat.blt d n = true) (hv : Yl P n ρ Fc Δ op ty v)
    (k : PW X n ((d, v) :: ρ) F Γ (wpAnyC P ops Q (Hp Fc Δ) L fuel listed')) : PW X n ρ F Γ (wpAnyC P ops Q (Hp Fc Δ) L (fuel + 1) listed) := by
  intro a w ha hw
  refine wpAnyC_first (by simpa using hiL) hi (Region.noSelect_spec hs) (fun c a w h => absurd h (hQ c _ w)) fuel listed a w (Region.free_spec hi hf) ?_ (by simpa using hr)
    (.inl ⟨by simp [Region.wanted], fun w' hw' => hv _ _ _ _ a w' ha hw'⟩) (hp_of hw hΔ hF) (by rw [hl]; exact k _ _ (ha.put hd) hw)
  intro q hq
  rw [List.all_eq_true] at hno
  have hlt : q < ops.size := by
    rcases Nat.lt_or_ge q listed.size with h | h
    · omega
    · simp [Array.getElem?_eq_none h] at hq
  have := hno q (List.mem_range.2 hlt)
  rw [hq] at this
  simpa using this

/-- The same, behind a guard that says yes; and one that a guard passes over. -/
theorem a_valG {i d j t : Nat} {b : Bool} {op : Op} {ty : TypeId} {pos : String} {af : Array Edge} {v : Value} (i' : i = i) (hi : ops[i]? = some ⟨some d, op, ty, pos, af, some (j, b)⟩) (ht : (ops[j]?).bind (·.dst) = some t) (hb : lk t ρ = some (.bool b))
    (hiL : L.contains i = true) (hs : Region.noSelect ops = true)
    (hf : Region.free .any ops listed i = true) (hno : ((List.range ops.size).all fun k => !(listed.getD k false && dep ops i k)) = true) (hlz : listed.size = ops.size) (hr : (Region.ready .any ops listed).contains i = true)
    (hl : listed.setIfInBounds i true = listed') (hQ : ∀ c a w, ¬ Q (.panic c) a w) (hΔ : In' Δ Γ) (hF : Le Fc F) (hd : Nat.blt d n = true) (hv : Yl P n ρ Fc Δ op ty v)
    (k : PW X n ((d, v) :: ρ) F Γ (wpAnyC P ops Q (Hp Fc Δ) L fuel listed')) : PW X n ρ F Γ (wpAnyC P ops Q (Hp Fc Δ) L (fuel + 1) listed) := by
  intro a w ha hw
  have hy : yielded ops a.tmps j = some b := by unfold yielded; rw [ht]; simp [ha.ag t _ hb]
  refine wpAnyC_first (by simpa using hiL) hi (Region.noSelect_spec hs) (fun c a w h => absurd h (hQ c _ w)) fuel listed a w (Region.free_spec hi hf) ?_ (by simpa using hr)
    (.inl ⟨by simp [Region.wanted, hy], fun w' hw' => hv _ _ _ _ a w' ha hw'⟩) (hp_of hw hΔ hF) (by rw [hl]; exact k _ _ (ha.put hd) hw)
  intro q hq
  rw [List.all_eq_true] at hno
  have hlt : q < ops.size := by
    rcases Nat.lt_or_ge q listed.size with h | h
    · omega
    · simp [Array.getElem?_eq_none h] at hq
  have := hno q (List.mem_range.2 hlt)
  rw [hq] at this
  simpa using this

theorem a_no {i d j t : Nat} {b c : Bool} {op : Op} {ty : TypeId} {pos : String} {af : Array Edge} (i' : i = i) (hi : ops[i]? = some ⟨some d, op, ty, pos, af, some (j, b)⟩) (ht : (ops[j]?).bind (·.dst) = some t) (hb : lk t ρ = some (.bool c)) (hbc : c = !b)
    (hiL : L.contains i = true) (hs : Region.noSelect ops = true)
    (hf : Region.free .any ops listed i = true) (hno : ((List.range ops.size).all fun k => !(listed.getD k false && dep ops i k)) = true) (hlz : listed.size = ops.size) (hr : (Region.ready .any ops listed).contains i = true)
    (hl : listed.setIfInBounds i true = listed') (hQ : ∀ c a w, ¬ Q (.panic c) a w) (hΔ : In' Δ Γ) (hF : Le Fc F) (hd : Nat.blt d n = true)
    (k : PW X n ((d, undef) :: ρ) F Γ (wpAnyC P ops Q (Hp Fc Δ) L fuel listed')) : PW X n ρ F Γ (wpAnyC P ops Q (Hp Fc Δ) L (fuel + 1) listed) := by
  intro a w ha hw
  have hy : yielded ops a.tmps j = some c := by unfold yielded; rw [ht]; simp [ha.ag t _ hb]
  refine wpAnyC_first (v := undef) (by simpa using hiL) hi (Region.noSelect_spec hs) (fun c a w h => absurd h (hQ c _ w)) fuel listed a w (Region.free_spec hi hf) ?_ (by simpa using hr)
    (.inr ⟨by simp [Region.wanted, hy, hbc], rfl⟩) (hp_of hw hΔ hF) (by rw [hl]; exact k _ _ (ha.put hd) hw)
  intro q hq
  rw [List.all_eq_true] at hno
  have hlt : q < ops.size := by
    rcases Nat.lt_or_ge q listed.size with h | h
    · omega
    · simp [Array.getElem?_eq_none h] at hq
  have := hno q (List.mem_range.2 hlt)
  rw [hq] at this
  simpa using this

/-- The only one that is ready. -/
theorem a_one {i : Nat} {o : Oper} (i' : i = i) (hi : ops[i]? = some o) (hr : Region.ready .any ops listed = [i]) (hg : o.guard = none) (hl : listed.setIfInBounds i true = listed')
    (hC : pend ops L listed = false ∨ In' Δ Γ ∧ Le Fc F)
    (k : PW X n ρ F Γ (fun a w => o.wp P a w (wpAnyC P ops Q (Hp Fc Δ) L fuel listed') Q)) : PW X n ρ F Γ (wpAnyC P ops Q (Hp Fc Δ) L (fuel + 1) listed) := by
  intro a w ha hw
  refine ⟨fun hp => ?_, fun h0 => (by rw [hr] at h0; cases h0), fun j hj => ?_⟩
  · rcases hC with h | ⟨h1, h2⟩
    · rw [h] at hp; cases hp
    · exact hp_of hw h1 h2
  · rw [hr] at hj
    simp at hj
    subst hj
    unfold wpOp
    simp only [hi]
    rw [if_pos (by simp [Region.wanted, hg]), hl]
    exact .inl (k a w ha hw)

/-- Two that are ready. -/
theorem a_two {i j : Nat} {o o' : Oper} (i' : i = i) (j' : j = j) (hi : ops[i]? = some o) (hj : ops[j]? = some o') (hr : Region.ready .any ops listed = [i, j]) (hg : o.guard = none) (hg' : o'.guard = none) {l1 l2 : Array Bool}
    (hl1 : listed.setIfInBounds i true = l1) (hl2 : listed.setIfInBounds j true = l2)
    (hC : pend ops L listed = false ∨ In' Δ Γ ∧ Le Fc F)
    (k1 : PW X n ρ F Γ (fun a w => o.wp P a w (wpAnyC P ops Q (Hp Fc Δ) L fuel l1) Q)) (k2 : PW X n ρ F Γ (fun a w => o'.wp P a w (wpAnyC P ops Q (Hp Fc Δ) L fuel l2) Q)) :
    PW X n ρ F Γ (wpAnyC P ops Q (Hp Fc Δ) L (fuel + 1) listed) := by
  intro a w ha hw
  refine ⟨fun hp => ?_, fun h0 => (by rw [hr] at h0; cases h0), fun q hq => ?_⟩
  · rcases hC with h | ⟨h1, h2⟩
    · rw [h] at hp; cases hp
    · exact hp_of hw h1 h2
  · rw [hr] at hq
    simp at hq
    unfold wpOp
    rcases hq with rfl | rfl
    · simp only [hi]
      rw [if_pos (by simp [Region.wanted, hg]), hl1]
      exact .inl (k1 a w ha hw)
    · simp only [hj]
      rw [if_pos (by simp [Region.wanted, hg']), hl2]
      exact .inl (k2 a w ha hw)

theorem a_done (hr : Region.ready .any ops listed = []) (hp : pend ops L listed = false) (h : PW X n ρ F Γ (Q .normal)) : PW X n ρ F Γ (wpAnyC P ops Q (Hp Fc Δ) L 0 listed) :=
  fun a w ha hw => ⟨fun h' => (by rw [hp] at h'; cases h'), hr, h a w ha hw⟩

theorem Post_np {fn : Func} {R : Value → FH → Blks → Prop} {c : List PanicEntry} {a : Act} {w : World} (h : Post P fn X R (.panic c) a w) : False := by
  obtain ⟨_, _, _, _, he, _⟩ := h
  cases he
theorem np_post {fn : Func} {R : Value → FH → Blks → Prop} : ∀ c a w, ¬ Post P fn X R (.panic c) a w := fun _ _ _ h => Post_np h
theorem np_then {next : Act → World → Prop} (h : ∀ c a w, ¬ Q (.panic c) a w) : ∀ c a w, ¬ Exit.then next Q (.panic c) a w := h
theorem np_in {i : Nat} (h : ∀ c a w, ¬ Q (.panic c) a w) : ∀ c a w, ¬ Exit.inBlock i Q (.panic c) a w := h
end
end Go.SL
