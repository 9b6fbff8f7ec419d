/- Contracts, calls, entries, results; strings. No condition. -/
import Derived.Test.YtgefikehhcgdnaaGreatDoorOps
namespace Go.SL

def Callable (P : Program) (f : FuncId) : Prop := ∃ fn, P.funcs[f]? = some fn ∧ (fn.name == "runtime.NumGoroutine") = false ∧ fn.body.isNone = false

/-- A contract: from the frozen heap F and the blocks Γ. -/
def Fn (P : Program) (f : FuncId) (args : List Value) (F : FH) (Γ : Blks) (R : Value → FH → Blks → Prop) : Prop :=
  Callable P f ∧ ∀ w, Holds ⟨w, Γ.map (·.1), F⟩ F Γ w →
    Calls P f args.toArray w fun e w' => ∃ v F' Γ', e = .returned v ∧ R v F' Γ' ∧ Holds ⟨w, Γ.map (·.1), F⟩ F' Γ' w'

/-- A function that reads and yields a value. -/
def FnV (P : Program) (f : FuncId) (args : List Value) (F : FH) (v : Value) : Prop := Fn P f args F [] fun u _ _ => u = v

section
variable {P : Program} {X : Cx} {n : Nat} {ρ : Regs} {F : FH} {Γ : Blks} {Q : Exit → Act → World → Prop} {ops : Array Oper} {rest : List Oper}

theorem Fn.mono {f : FuncId} {args : List Value} {R R' : Value → FH → Blks → Prop} (h : Fn P f args F Γ R) (hr : ∀ v F' Γ', R v F' Γ' → R' v F' Γ') : Fn P f args F Γ R' :=
  ⟨h.1, fun w hw => (h.2 w hw).mono fun _ _ ⟨v, F', Γ', he, hR, hh⟩ => ⟨v, F', Γ', he, hr _ _ _ hR, hh⟩⟩

theorem callFunc_run {f : FuncId} {args : Array Value} (h : Callable P f) (w : World) : (callFunc f args).run P w = .ok (.enter f args) w := by
  obtain ⟨fn, h1, h2, h3⟩ := h
  simp only [callFunc, Sem.run_bind, run_program, Result.andThen_ok, h1, h2, h3, Bool.false_eq_true, if_false, Sem.run_pure]

/-- A call of a function or of a closure, by its contract. -/
theorem e_call {d : Nat} {go : Operand} {args : Array Operand} {ats : Array TypeId} {ty : TypeId} {pos : String} {af : Array Edge} {g : Option (Nat × Bool)} {K : Act → World → Prop} {f : FuncId} {vs cs : List Value} {Γ1 Γ2 : Blks} {R : Value → FH → Blks → Prop}
    (hg : ev ρ go = some (.func (.func f) #[] cs.toArray)) (ha : evL ρ args.toList = some vs) (hC : Fn P f (vs ++ cs) F Γ1 R) (hp : Γ.Perm (Γ1 ++ Γ2)) (hd : Nat.blt d n = true)
    (k : ∀ v F' Γ', R v F' Γ' → Le F F' → PW X n ((d, v) :: ρ) F' (Γ' ++ Γ2) K) :
    PW X n ρ F Γ (fun a w => (Oper.mk (some d) (.call ⟨.value go, args, ats⟩) ty pos af g).wp P a w K Q) := by
  intro a w hag hw
  unfold Oper.wp
  have e1 : args.map a.eval = vs.toArray := by apply Array.ext'; simpa using hag.evalL ha
  have hr : (execOp a.eval ⟨some d, .call ⟨.value go, args, ats⟩, ty, pos, af, g⟩).run P w = .ok (.enter f (vs ++ cs).toArray) w := by
    simp [execOp, resolve, hag.eval hg, Deferred.ofValue, e1, invoke, callFunc_run hC.1]
  rw [hr]
  have hw1 := hw.perm hp
  refine (hC.2 w hw1.start).mono ?_
  rintro e w' ⟨v, F', Γ', rfl, hR, hh⟩
  exact k v F' Γ' hR hh.up _ _ (hag.put hd) (hw1.back hh)

theorem e_callV {d : Nat} {go : Operand} {args : Array Operand} {ats : Array TypeId} {ty : TypeId} {pos : String} {af : Array Edge} {g : Option (Nat × Bool)} {K : Act → World → Prop} {f : FuncId} {vs cs : List Value} {v : Value}
    (hg : ev ρ go = some (.func (.func f) #[] cs.toArray)) (ha : evL ρ args.toList = some vs) (hC : FnV P f (vs ++ cs) F v) (hd : Nat.blt d n = true)
    (k : PW X n ((d, v) :: ρ) F Γ K) :
    PW X n ρ F Γ (fun a w => (Oper.mk (some d) (.call ⟨.value go, args, ats⟩) ty pos af g).wp P a w K Q) := by
  intro a w hag hw
  unfold Oper.wp
  have e1 : args.map a.eval = vs.toArray := by apply Array.ext'; simpa using hag.evalL ha
  have hr : (execOp a.eval ⟨some d, .call ⟨.value go, args, ats⟩, ty, pos, af, g⟩).run P w = .ok (.enter f (vs ++ cs).toArray) w := by
    simp [execOp, resolve, hag.eval hg, Deferred.ofValue, e1, invoke, callFunc_run hC.1]
  rw [hr]
  refine (hC.2 w (Holds.start (Γ := []) (Δ := Γ) hw)).mono ?_
  rintro e w' ⟨u, F', Γ', rfl, rfl, hh⟩
  exact k _ _ (hag.put hd) (((Holds.back (Γ := []) (Δ := Γ) hw hh).right).forget hw.up hh.up)

/-- A call that yields nothing: its result is the empty tuple. -/
theorem e_call0 {go : Operand} {args : Array Operand} {ats : Array TypeId} {ty : TypeId} {pos : String} {af : Array Edge} {g : Option (Nat × Bool)} {K : Act → World → Prop} {f : FuncId} {vs cs : List Value} {Γ1 Γ2 : Blks} {R : Value → FH → Blks → Prop}
    (hg : ev ρ go = some (.func (.func f) #[] cs.toArray)) (ha : evL ρ args.toList = some vs) (hC : Fn P f (vs ++ cs) F Γ1 R) (hp : Γ.Perm (Γ1 ++ Γ2))
    (k : ∀ v F' Γ', R v F' Γ' → Le F F' → PW X n ρ F' (Γ' ++ Γ2) K) :
    PW X n ρ F Γ (fun a w => (Oper.mk (none) (.call ⟨.value go, args, ats⟩) ty pos af g).wp P a w K Q) := by
  intro a w hag hw
  unfold Oper.wp
  have e1 : args.map a.eval = vs.toArray := by apply Array.ext'; simpa using hag.evalL ha
  have hr : (execOp a.eval ⟨none, .call ⟨.value go, args, ats⟩, ty, pos, af, g⟩).run P w = .ok (.enter f (vs ++ cs).toArray) w := by
    simp [execOp, resolve, hag.eval hg, Deferred.ofValue, e1, invoke, callFunc_run hC.1]
  rw [hr]
  have hw1 := hw.perm hp
  refine (hC.2 w hw1.start).mono ?_
  rintro e w' ⟨v, F', Γ', rfl, hR, hh⟩
  exact k v F' Γ' hR hh.up _ _ ⟨hag.dz, hag.sz, hag.ag⟩ (hw1.back hh)

def numb : Nat → List Value → Regs
  | _, [] => []
  | k, v :: r => (k, v) :: numb (k + 1) r

theorem numb_lk : ∀ (l : List Value) (k t : Nat) (v : Value), lk t (numb k l) = some v → k ≤ t ∧ l[t - k]? = some v
  | [], _, _, _, h => by simp [numb, lk] at h
  | u :: r, k, t, v, h => by
    simp only [numb, lk] at h
    cases hb : Nat.beq k t with
    | true => rw [hb] at h; have := Nat.eq_of_beq_eq_true hb; subst this; simp at h; simp [h]
    | false =>
      rw [hb] at h
      have hne : k ≠ t := Nat.ne_of_beq_eq_false hb
      obtain ⟨h1, h2⟩ := numb_lk r (k + 1) t v (by simpa using h)
      refine ⟨by omega, ?_⟩
      rw [show t - k = (t - (k + 1)) + 1 by omega]
      simpa using h2

/-- What a body must come to. -/
def Post (P : Program) (fn : Func) (X : Cx) (R : Value → FH → Blks → Prop) : Exit → Act → World → Prop :=
  bodyPost P fn fun e w' => ∃ v F' Γ', e = .returned v ∧ R v F' Γ' ∧ Holds X F' Γ' w'

/-- The walk of a function. -/
theorem fn_walk {f : FuncId} {fn : Func} {c : Code} {args : List Value} {R : Value → FH → Blks → Prop} (hf : P.funcs[f]? = some fn) (hn : (fn.name == "runtime.NumGoroutine") = false)
    (hb : fn.body = some c) {m : Nat} (hm : fn.ntmps = m) (hs : Nat.ble args.length m = true)
    (h : ∀ w0, PW ⟨w0, Γ.map (·.1), F⟩ m (numb 0 args) F Γ (c.wp P (Post P fn ⟨w0, Γ.map (·.1), F⟩ R))) : Fn P f args F Γ R := by
  refine ⟨⟨fn, hf, hn, by simp [hb]⟩, fun w hw => calls_of_wp hf hb (h w _ _ ⟨rfl, ?_, ?_⟩ hw)⟩
  · have := Nat.le_of_ble_eq_true hs
    simp [hm]; omega
  · intro t v ht
    obtain ⟨_, h2⟩ := numb_lk args 0 t v ht
    have hlt := (List.getElem?_eq_some_iff.1 h2).1
    simp at hlt h2
    have h3 := (List.getElem?_eq_some_iff.1 h2).2
    simp [Array.getElem?_append, hlt, h3]

theorem r_one {fn : Func} {R : Value → FH → Blks → Prop} {t : Tmp} {v : Value} (hr : fn.results = #[.tmp t]) (hv : lk t ρ = some v) (h : R v F Γ) : PW X n ρ F Γ (Post P fn X R .ret) :=
  fun a w ha hw => ⟨ha.dz, v, by rw [results_tmp hr]; simp [ha.ag t v hv], v, F, Γ, rfl, h, hw⟩
theorem r_none {fn : Func} {R : Value → FH → Blks → Prop} (hr : fn.results = #[]) (h : R (.tuple #[]) F Γ) : PW X n ρ F Γ (Post P fn X R .normal) :=
  fun a w ha hw => ⟨ha.dz, _, by rw [results_none hr], _, F, Γ, rfl, h, hw⟩
theorem r_none' {fn : Func} {R : Value → FH → Blks → Prop} (hr : fn.results = #[]) (h : R (.tuple #[]) F Γ) : PW X n ρ F Γ (Post P fn X R .ret) :=
  fun a w ha hw => ⟨ha.dz, _, by rw [results_none hr], _, F, Γ, rfl, h, hw⟩

theorem lkM_spec {a : Act} (ha : Agree n ρ a) {t : Nat} {v : Value} (h : lk t ρ = some v) : a.tmps.getD t undef = v := by simp [ha.ag t v h]

/-- Several results. -/
def lkRes (ρ : Regs) : List ResultVar → Option (List Value)
  | [] => some []
  | .tmp t :: r => match lk t ρ with
    | some v => match lkRes ρ r with
      | some l => some (v :: l)
      | none => none
    | none => none
  | _ => none

theorem lkRes_run {a : Act} (ha : Agree n ρ a) (w : World) (f : ResultVar → Sem Value) (hf : ∀ t, f (.tmp t) = pure (a.tmps.getD t undef)) : ∀ {rs : List ResultVar} {vs : List Value}, lkRes ρ rs = some vs →
    (rs.mapM f).run P w = .ok vs w
  | [], vs, h => by simp [lkRes] at h; simp [← h]
  | .tmp t :: r, vs, h => by
    simp only [lkRes] at h
    split at h
    · rename_i v hv
      split at h
      · rename_i l hl
        simp at h
        have := lkRes_run ha w f hf hl
        simp only [List.mapM_cons, Sem.run_bind, Sem.run_pure, Result.andThen_ok, hf, lkM_spec ha hv, this, ← h]
      · simp at h
    · simp at h
  | .cell _ _ :: r, vs, h => by simp [lkRes] at h

theorem r_many {fn : Func} {R : Value → FH → Blks → Prop} {rs : List ResultVar} {u v : Value} {vs : List Value} (hr : fn.results = rs.toArray) (hv : lkRes ρ rs = some (u :: v :: vs)) (h : R (.tuple (u :: v :: vs).toArray) F Γ) :
    PW X n ρ F Γ (Post P fn X R .ret) :=
  fun a w ha hw => ⟨ha.dz, .tuple (u :: v :: vs).toArray, by
    unfold results
    rw [hr, List.mapM_toArray, Sem.run_bind, Sem.run_map, lkRes_run (P := P) ha w _ (fun _ => rfl) hv]
    simp, _, F, Γ, rfl, h, hw⟩

/-- A result in a block. -/
theorem r_cell {fn : Func} {R : Value → FH → Blks → Prop} {t : Tmp} {T : TypeId} {de : TypeDesc} {sz by' : Nat} {z v : Value} {b off : Nat} {c : List Value} {u : TypeId} {fz : Nat × Nat} {C : Obj → Blks}
    (hr : fn.results = #[.cell t T]) (ht : Ty P T de sz by' z) (hx : lk t ρ = some (.pointer (some ⟨b, off, none⟩))) [hA : At Γ b (.cells c.toArray u fz) C] (hv : ldv (isAggD de) sz c off = some v)
    (h : R v F Γ) : PW X n ρ F Γ (Post P fn X R .ret) :=
  fun a w ha hw => ⟨ha.dz, v, by
    have := loadVar_run ht (hA.get hw.hp) hv
    have e := lkM_spec ha hx
    simp only [results, hr, List.mapM_toArray, Sem.run_bind, Sem.run_map, List.mapM_cons, List.mapM_nil, e, asAddr, Sem.run_pure, Result.andThen_ok, this]
    simp, v, F, Γ, rfl, h, hw⟩
end
end Go.SL
