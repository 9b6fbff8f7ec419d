/- The assertions of a walk (registers, exclusive blocks, a frozen part of the heap) and their rules over the kit's wpList, Code.wp, Calls. No condition. -/
import Derived.Tactics
namespace Go.SL

abbrev Regs := List (Nat × Value)
abbrev Blks := List (Nat × Obj)
abbrev FH := Nat → Option Obj

def lk (t : Nat) : Regs → Option Value
  | [] => none
  | (k, v) :: r => bif Nat.beq k t then some v else lk t r

def ev (ρ : Regs) : Operand → Option Value
  | .tmp t => lk t ρ
  | .const v => some v
  | .global g => some (.pointer (some ⟨g, 0, none⟩))
  | .func f => some (.func (.func f) #[] #[])

def evL (ρ : Regs) : List Operand → Option (List Value)
  | [] => some []
  | x :: r => match ev ρ x with
    | none => none
    | some v => match evL ρ r with
      | none => none
      | some vs => some (v :: vs)

structure Agree (n : Nat) (ρ : Regs) (a : Act) : Prop where
  dz : a.defers = []
  sz : a.tmps.size = n
  ag : ∀ t v, lk t ρ = some v → a.tmps[t]? = some v

theorem Agree.eval {n : Nat} {ρ : Regs} {a : Act} (h : Agree n ρ a) {x : Operand} {v : Value} (hx : ev ρ x = some v) : a.eval x = v := by
  cases x with
  | tmp t => simp only [ev] at hx; simp [Act.eval, h.ag t v hx]
  | const u => simp only [ev] at hx; simpa [Act.eval] using hx
  | global g => simp only [ev] at hx; simpa [Act.eval] using hx
  | func g => simp only [ev] at hx; simpa [Act.eval] using hx

theorem Agree.evalL {n : Nat} {ρ : Regs} {a : Act} (h : Agree n ρ a) : ∀ {l : List Operand} {vs : List Value}, evL ρ l = some vs → l.map a.eval = vs
  | [], vs, hx => by simp [evL] at hx; simp [← hx]
  | x :: r, vs, hx => by
    simp only [evL] at hx
    split at hx
    · simp at hx
    · rename_i v hv
      split at hx
      · simp at hx
      · rename_i us hus
        simp at hx
        rw [List.map_cons, h.eval hv, h.evalL hus, hx]

theorem Agree.put {n : Nat} {ρ : Regs} {a : Act} (h : Agree n ρ a) {d : Nat} {v : Value} (hd : Nat.blt d n = true) : Agree n ((d, v) :: ρ) (a.put (some d) v) where
  dz := by simpa [Act.put] using h.dz
  sz := by simpa [Act.put] using h.sz
  ag := by
    intro t u ht
    have hd' : d < n := Nat.blt_eq.mp hd
    simp only [lk] at ht
    cases hb : Nat.beq d t with
    | true =>
      rw [hb] at ht
      have := Nat.eq_of_beq_eq_true hb
      subst this
      simp at ht
      simp [Act.put, h.sz, hd', ht]
    | false =>
      rw [hb] at ht
      have hne : d ≠ t := Nat.ne_of_beq_eq_false hb
      simp only [Act.put]
      rw [Array.getElem?_setIfInBounds_ne hne]
      exact h.ag t u (by simpa using ht)

/-- What is kept of registers. -/
def Sub : Regs → Regs → Prop
  | [], _ => True
  | (t, v) :: r, ρ => lk t ρ = some v ∧ Sub r ρ

theorem Sub.lk {t : Nat} {v : Value} : ∀ {r ρ : Regs}, Sub r ρ → lk t r = some v → lk t ρ = some v
  | [], _, _, h => by simp [SL.lk] at h
  | (k, u) :: r, ρ, hs, h => by
    simp only [SL.lk] at h
    cases hb : Nat.beq k t with
    | true =>
      rw [hb] at h
      have := Nat.eq_of_beq_eq_true hb
      subst this
      simp at h
      subst h
      exact hs.1
    | false => rw [hb] at h; exact Sub.lk hs.2 (by simpa using h)

theorem Agree.sub {n : Nat} {r ρ : Regs} {a : Act} (h : Agree n ρ a) (hs : Sub r ρ) : Agree n r a :=
  ⟨h.dz, h.sz, fun t v ht => h.ag t v (hs.lk ht)⟩

/-- The world at the entry, the blocks that may be written, what was frozen at the entry. -/
structure Cx where
  w0 : World
  K : List Nat
  F0 : FH

def Le (F G : FH) : Prop := ∀ b o, F b = some o → G b = some o
theorem Le.refl (F : FH) : Le F F := fun _ _ h => h
theorem Le.trans {F G H : FH} (h : Le F G) (h' : Le G H) : Le F H := fun b o hb => h' b o (h b o hb)

structure Holds (X : Cx) (F : FH) (Γ : Blks) (w : World) : Prop where
  fr : ∀ b o, F b = some o → w.heap[b]? = some o
  own : ∀ p ∈ Γ, w.heap[p.1]? = some p.2
  nd : (Γ.map (·.1)).Nodup
  dj : ∀ p ∈ Γ, F p.1 = none
  rng : ∀ p ∈ Γ, X.w0.heap.size ≤ p.1 ∨ p.1 ∈ X.K
  size : X.w0.heap.size ≤ w.heap.size
  frame : ∀ b, b < X.w0.heap.size → b ∉ X.K → w.heap[b]? = X.w0.heap[b]?
  up : Le X.F0 F
  dom : ∀ b o, F b = some o → X.F0 b = some o ∨ X.w0.heap.size ≤ b ∨ b ∈ X.K
  tape : w.tape = X.w0.tape
  os : w.os = X.w0.os
  out : w.output = X.w0.output

theorem lt_of_get {h : Array Obj} {b : Nat} {o : Obj} (hb : h[b]? = some o) : b < h.size := by
  rcases Nat.lt_or_ge b h.size with hl | hl
  · exact hl
  · simp [Array.getElem?_eq_none hl] at hb

section
variable {X : Cx} {F : FH} {Γ : Blks} {w : World}

theorem Holds.lt (h : Holds X F Γ w) {p : Nat × Obj} (hp : p ∈ Γ) : p.1 < w.heap.size := lt_of_get (h.own p hp)

theorem Holds.drawn (h : Holds X F Γ w) (k : Nat) : Holds X F Γ { w with drawn := k } := ⟨h.fr, h.own, h.nd, h.dj, h.rng, h.size, h.frame, h.up, h.dom, h.tape, h.os, h.out⟩

theorem Holds.perm (h : Holds X F Γ w) {Δ : Blks} (hp : Γ.Perm Δ) : Holds X F Δ w :=
  ⟨h.fr, fun p hm => h.own p (hp.mem_iff.2 hm), (hp.map _).nodup_iff.1 h.nd, fun p hm => h.dj p (hp.mem_iff.2 hm), fun p hm => h.rng p (hp.mem_iff.2 hm), h.size, h.frame, h.up, h.dom, h.tape, h.os, h.out⟩

theorem Holds.forget (h : Holds X F Γ w) {G : FH} (h0 : Le X.F0 G) (hG : Le G F) : Holds X G Γ w :=
  ⟨fun b o hb => h.fr b o (hG b o hb), h.own, h.nd, fun p hp => by
    cases hg : G p.1 with
    | none => rfl
    | some o => have := h.dj p hp; rw [hG _ _ hg] at this; simp at this, h.rng, h.size, h.frame, h0, fun b o hb => h.dom b o (hG b o hb), h.tape, h.os, h.out⟩

theorem Holds.right {Δ : Blks} (h : Holds X F (Δ ++ Γ) w) : Holds X F Γ w :=
  ⟨h.fr, fun p hp => h.own p (by simp [hp]), by have := h.nd; rw [List.map_append] at this; exact (List.nodup_append.1 this).2.1, fun p hp => h.dj p (by simp [hp]), fun p hp => h.rng p (by simp [hp]), h.size, h.frame, h.up, h.dom, h.tape, h.os, h.out⟩

theorem Holds.left {Δ : Blks} (h : Holds X F (Γ ++ Δ) w) : Holds X F Γ w :=
  ⟨h.fr, fun p hp => h.own p (by simp [hp]), by have := h.nd; rw [List.map_append] at this; exact (List.nodup_append.1 this).1, fun p hp => h.dj p (by simp [hp]), fun p hp => h.rng p (by simp [hp]), h.size, h.frame, h.up, h.dom, h.tape, h.os, h.out⟩

theorem Holds.tail {p : Nat × Obj} (h : Holds X F (p :: Γ) w) : Holds X F Γ w := Holds.right (Δ := [p]) h

theorem Holds.freshF (h : Holds X F Γ w) : F w.heap.size = none := by
  cases hg : F w.heap.size with
  | none => rfl
  | some o => have := lt_of_get (h.fr _ _ hg); omega

theorem get_push {h : Array Obj} {b : Nat} {o u : Obj} (hb : h[b]? = some o) : (h.push u)[b]? = some o := by
  have := lt_of_get hb
  rw [Array.getElem?_push_lt this]
  simpa [Array.getElem?_eq_getElem this] using hb

theorem get_push' {h : Array Obj} {b : Nat} {u : Obj} (hb : b < h.size) : (h.push u)[b]? = h[b]? := by
  rw [Array.getElem?_push_lt hb, Array.getElem?_eq_getElem hb]

/-- A new block. -/
theorem Holds.push (h : Holds X F Γ w) (o : Obj) : Holds X F ((w.heap.size, o) :: Γ) { w with heap := w.heap.push o } where
  fr := fun b u hb => get_push (h.fr b u hb)
  own := by
    intro p hp
    rcases List.mem_cons.1 hp with rfl | hp
    · simp
    · exact get_push (h.own p hp)
  nd := by
    simp only [List.map_cons, List.nodup_cons]
    refine ⟨fun hm => ?_, h.nd⟩
    obtain ⟨p, hp, he⟩ := List.mem_map.1 hm
    have := h.lt hp
    omega
  dj := by
    intro p hp
    rcases List.mem_cons.1 hp with rfl | hp
    · exact h.freshF
    · exact h.dj p hp
  rng := by
    intro p hp
    rcases List.mem_cons.1 hp with rfl | hp
    · exact .inl h.size
    · exact h.rng p hp
  size := by have := h.size; simp; omega
  frame := fun b hb hK => by have := h.size; rw [get_push' (by omega)]; exact h.frame b hb hK
  up := h.up
  dom := h.dom
  tape := h.tape
  os := h.os
  out := h.out

def fset (F : FH) (b : Nat) (o : Obj) : FH := fun c => if c = b then some o else F c
theorem fset_le {F : FH} {b : Nat} {o : Obj} (h : F b = none) : Le F (fset F b o) := fun c u hc => by
  unfold fset
  split
  · rename_i he; rw [he, h] at hc; simp at hc
  · exact hc
@[simp] theorem fset_self (F : FH) (b : Nat) (o : Obj) : fset F b o b = some o := by simp [fset]

/-- An exclusive block is frozen. -/
theorem Holds.freeze {b : Nat} {o : Obj} (h : Holds X F ((b, o) :: Γ) w) : Holds X (fset F b o) Γ w where
  fr := fun c u hc => by
    unfold fset at hc
    split at hc
    · rename_i he; simp at hc; rw [he, ← hc]; exact h.own (b, o) (by simp)
    · exact h.fr c u hc
  own := fun p hp => h.own p (by simp [hp])
  nd := by have := h.nd; simp at this; exact this.2
  dj := fun p hp => by
    unfold fset
    split
    · rename_i he
      have := h.nd
      simp only [List.map_cons, List.nodup_cons] at this
      exact absurd (List.mem_map.2 ⟨p, hp, he⟩) this.1
    · exact h.dj p (by simp [hp])
  rng := fun p hp => h.rng p (by simp [hp])
  size := h.size
  frame := h.frame
  up := h.up.trans (fset_le (h.dj (b, o) (by simp)))
  dom := fun c u hc => by
    unfold fset at hc
    split at hc
    · rename_i he; subst he; exact .inr (h.rng (c, o) (by simp))
    · exact h.dom c u hc
  tape := h.tape
  os := h.os
  out := h.out

theorem get_setIf {h : Array Obj} {b c : Nat} {o : Obj} (hb : c ≠ b) : (h.setIfInBounds b o)[c]? = h[c]? := by
  rw [Array.getElem?_setIfInBounds_ne (Ne.symm hb)]

/-- An exclusive block holds something else. -/
theorem Holds.set {b : Nat} {o o' : Obj} (h : Holds X F ((b, o) :: Γ) w) : Holds X F ((b, o') :: Γ) { w with heap := w.heap.setIfInBounds b o' } := by
  have hlt := h.lt (p := (b, o)) (by simp)
  have hnd := h.nd
  simp only [List.map_cons, List.nodup_cons] at hnd
  exact {
  fr := fun c u hc => by
    have hne : c ≠ b := by
      intro he; subst he
      have := h.dj (c, o) (by simp)
      rw [hc] at this; simp at this
    show (w.heap.setIfInBounds b o')[c]? = _
    rw [get_setIf hne]; exact h.fr c u hc
  own := by
    intro p hp
    show (w.heap.setIfInBounds b o')[p.1]? = _
    rcases List.mem_cons.1 hp with rfl | hp
    · simp [Array.getElem?_setIfInBounds, hlt]
    · have hne : p.1 ≠ b := fun he => hnd.1 (List.mem_map.2 ⟨p, hp, he⟩)
      rw [get_setIf hne]; exact h.own p (by simp [hp])
  nd := by simpa only [List.map_cons, List.nodup_cons] using hnd
  dj := by
    intro p hp
    rcases List.mem_cons.1 hp with rfl | hp
    · exact h.dj (b, o) (by simp)
    · exact h.dj p (by simp [hp])
  rng := by
    intro p hp
    rcases List.mem_cons.1 hp with rfl | hp
    · exact h.rng (b, o) (by simp)
    · exact h.rng p (by simp [hp])
  size := by have := h.size; simpa using this
  frame := fun c hc hK => by
    show (w.heap.setIfInBounds b o')[c]? = _
    have hne : c ≠ b := by
      intro he; subst he
      rcases h.rng (c, o) (by simp) with hr | hr
      · simp at hr; omega
      · exact hK hr
    rw [get_setIf hne]; exact h.frame c hc hK
  up := h.up
  dom := h.dom
  tape := h.tape
  os := h.os
  out := h.out }

/-- Behind a call that was handed the blocks Γ of Γ ++ Δ. -/
theorem Holds.back {Δ Γ' : Blks} {F' : FH} {w' : World} (h : Holds X F (Γ ++ Δ) w) (h' : Holds ⟨w, Γ.map (·.1), F⟩ F' Γ' w') : Holds X F' (Γ' ++ Δ) w' := by
  have hnd := h.nd
  rw [List.map_append, List.nodup_append] at hnd
  have hΔ : ∀ p ∈ Δ, p.1 < w.heap.size ∧ p.1 ∉ Γ.map (·.1) := fun p hp =>
    ⟨h.lt (p := p) (by simp [hp]), fun hm => hnd.2.2 _ hm _ (List.mem_map.2 ⟨p, hp, rfl⟩) rfl⟩
  exact {
  fr := h'.fr
  own := by
    intro p hp
    rcases List.mem_append.1 hp with hp | hp
    · exact h'.own p hp
    · obtain ⟨h1, h2⟩ := hΔ p hp
      rw [h'.frame p.1 h1 h2]
      exact h.own p (by simp [hp])
  nd := by
    rw [List.map_append, List.nodup_append]
    refine ⟨h'.nd, hnd.2.1, fun b hb c hc he => ?_⟩
    obtain ⟨p, hp, rfl⟩ := List.mem_map.1 hb
    obtain ⟨q, hq, rfl⟩ := List.mem_map.1 hc
    obtain ⟨h1, h2⟩ := hΔ q hq
    rcases h'.rng p hp with hr | hr
    · simp at hr; omega
    · rw [he] at hr; exact h2 hr
  dj := by
    intro p hp
    rcases List.mem_append.1 hp with hp | hp
    · exact h'.dj p hp
    · obtain ⟨h1, h2⟩ := hΔ p hp
      cases hg : F' p.1 with
      | none => rfl
      | some o =>
        rcases h'.dom _ _ hg with hd | hd | hd
        · have := h.dj p (by simp [hp]); simp at hd; rw [hd] at this; simp at this
        · simp at hd; omega
        · exact absurd hd h2
  rng := by
    intro p hp
    rcases List.mem_append.1 hp with hp | hp
    · rcases h'.rng p hp with hr | hr
      · have := h.size; exact .inl (by simp at hr; omega)
      · obtain ⟨q, hq, he⟩ := List.mem_map.1 hr
        rw [← he]; exact h.rng q (by simp [hq])
    · exact h.rng p (by simp [hp])
  size := Nat.le_trans h.size h'.size
  frame := fun b hb hK => by
    have hsz := h.size
    have : b ∉ Γ.map (·.1) := fun hm => by
      obtain ⟨q, hq, he⟩ := List.mem_map.1 hm
      rcases h.rng q (by simp [hq]) with hr | hr
      · omega
      · exact hK (he ▸ hr)
    rw [h'.frame b (by simp; omega) this]
    exact h.frame b hb hK
  up := h.up.trans h'.up
  dom := fun b o hb => by
    have hsz := h.size
    rcases h'.dom b o hb with hd | hd | hd
    · exact h.dom b o hd
    · exact .inr (.inl (by simp at hd; omega))
    · obtain ⟨q, hq, he⟩ := List.mem_map.1 hd
      rw [← he]; exact .inr (h.rng q (by simp [hq]))
  tape := h'.tape.trans h.tape
  os := h'.os.trans h.os
  out := h'.out.trans h.out }

/-- At the entry of a call. -/
theorem Holds.start {Δ : Blks} (h : Holds X F (Γ ++ Δ) w) : Holds ⟨w, Γ.map (·.1), F⟩ F Γ w where
  fr := h.fr
  own := fun p hp => h.own p (by simp [hp])
  nd := by have := h.nd; rw [List.map_append, List.nodup_append] at this; exact this.1
  dj := fun p hp => h.dj p (by simp [hp])
  rng := fun p hp => .inr (List.mem_map.2 ⟨p, hp, rfl⟩)
  size := Nat.le_refl _
  frame := fun _ _ _ => rfl
  up := Le.refl _
  dom := fun _ _ hb => .inl hb
  tape := rfl
  os := rfl
  out := rfl
end

/-- From every state that the registers and the heap describe. -/
def PW (X : Cx) (n : Nat) (ρ : Regs) (F : FH) (Γ : Blks) (Φ : Act → World → Prop) : Prop :=
  ∀ a w, Agree n ρ a → Holds X F Γ w → Φ a w

section
variable {P : Program} {X : Cx} {n : Nat} {ρ : Regs} {F : FH} {Γ : Blks} {Q : Exit → Act → World → Prop}

theorem PW.keep {Φ : Act → World → Prop} (r : Regs) (hs : Sub r ρ) (h : PW X n r F Γ Φ) : PW X n ρ F Γ Φ :=
  fun a w ha hw => h a w (ha.sub hs) hw

theorem PW.perm {Φ : Act → World → Prop} (Δ : Blks) (hp : Γ.Perm Δ) (h : PW X n ρ F Δ Φ) : PW X n ρ F Γ Φ :=
  fun a w ha hw => h a w ha (hw.perm hp)

theorem PW.freeze {Φ : Act → World → Prop} {b : Nat} {o : Obj} (h : Le F (fset F b o) → PW X n ρ (fset F b o) Γ Φ) : PW X n ρ F ((b, o) :: Γ) Φ :=
  fun a w ha hw => h (fset_le (hw.dj (b, o) (by simp))) a w ha hw.freeze

theorem PW.drop {Φ : Act → World → Prop} {q : Nat × Obj} (h : PW X n ρ F Γ Φ) : PW X n ρ F (q :: Γ) Φ :=
  fun a w ha hw => h a w ha hw.tail

/-- Which way a register's Bool goes. -/
theorem PW.way {Φ : Act → World → Prop} {t : Nat} {c : Bool} (hd : Nat.blt t n = true) (hc : lk t ρ = some (.bool c))
    (h1 : c = true → PW X n ((t, .bool true) :: ρ) F Γ Φ) (h2 : c = false → PW X n ((t, .bool false) :: ρ) F Γ Φ) : PW X n ρ F Γ Φ := by
  intro a w ha hw
  have hag : ∀ b : Bool, c = b → Agree n ((t, .bool b) :: ρ) a := fun b hb => ⟨ha.dz, ha.sz, fun s v hs => by
    simp only [lk] at hs
    cases hbeq : Nat.beq t s with
    | true => rw [hbeq] at hs; have := Nat.eq_of_beq_eq_true hbeq; subst this; simp at hs; rw [← hs, ← hb]; exact ha.ag _ _ hc
    | false => rw [hbeq] at hs; exact ha.ag _ _ (by simpa using hs)⟩
  cases hcc : c with
  | true => exact h1 hcc a w (hag true hcc) hw
  | false => exact h2 hcc a w (hag false hcc) hw

theorem PW.wayD {Φ : Act → World → Prop} {t : Nat} {p : Prop} {inst : Decidable p} (hd : Nat.blt t n = true) (hc : lk t ρ = some (.bool (decide p)))
    (h1 : p → PW X n ((t, .bool true) :: ρ) F Γ Φ) (h2 : ¬ p → PW X n ((t, .bool false) :: ρ) F Γ Φ) : PW X n ρ F Γ Φ :=
  PW.way hd hc (fun h => h1 (of_decide_eq_true h)) (fun h => h2 (of_decide_eq_false h))

theorem w_seq {x y : Code} (h : PW X n ρ F Γ (x.wp P (Exit.then (y.wp P Q) Q))) : PW X n ρ F Γ ((Code.seq x y).wp P Q) :=
  fun a w ha hw => wp_seq (h a w ha hw)
theorem w_skip (h : PW X n ρ F Γ (Q .normal)) : PW X n ρ F Γ (Code.skip.wp P Q) := fun a w ha hw => wp_skip (h a w ha hw)
theorem w_label {l : Nat} (h : PW X n ρ F Γ (Q .normal)) : PW X n ρ F Γ ((Code.label l).wp P Q) := fun a w ha hw => wp_label (h a w ha hw)
theorem w_ret (h : PW X n ρ F Γ (Q .ret)) : PW X n ρ F Γ (Code.ret.wp P Q) := fun a w ha hw => wp_ret (h a w ha hw)
theorem w_exit {i : Nat} (h : PW X n ρ F Γ (Q (.exit i))) : PW X n ρ F Γ ((Code.exit i).wp P Q) := fun a w ha hw => wp_exit (h a w ha hw)
theorem w_block {i : Nat} {c : Code} (h : PW X n ρ F Γ (c.wp P (Exit.inBlock i Q))) : PW X n ρ F Γ ((Code.block i c).wp P Q) :=
  fun a w ha hw => wp_block (h a w ha hw)
theorem w_cond {c : Operand} {x y : Code} {t : Bool} (hc : ev ρ c = some (.bool t)) (h1 : t = true → PW X n ρ F Γ (x.wp P Q))
    (h2 : t = false → PW X n ρ F Γ (y.wp P Q)) : PW X n ρ F Γ ((Code.cond c x y).wp P Q) :=
  fun a w ha hw => wp_cond_split (ha.eval hc) (fun h => h1 h a w ha hw) (fun h => h2 h a w ha hw)
theorem w_condD {c : Operand} {x y : Code} {p : Prop} {inst : Decidable p} (hc : ev ρ c = some (.bool (decide p))) (h1 : p → PW X n ρ F Γ (x.wp P Q))
    (h2 : ¬ p → PW X n ρ F Γ (y.wp P Q)) : PW X n ρ F Γ ((Code.cond c x y).wp P Q) :=
  w_cond hc (fun h => h1 (of_decide_eq_true h)) (fun h => h2 (of_decide_eq_false h))
theorem w_condN {c : Operand} {x y : Code} {p : Prop} {inst : Decidable p} (hc : ev ρ c = some (.bool (!decide p))) (h1 : ¬ p → PW X n ρ F Γ (x.wp P Q))
    (h2 : p → PW X n ρ F Γ (y.wp P Q)) : PW X n ρ F Γ ((Code.cond c x y).wp P Q) :=
  w_cond hc (fun h => h1 (of_decide_eq_false (by simpa using h))) (fun h => h2 (of_decide_eq_true (by simpa using h)))
theorem w_condT {c : Operand} {x y : Code} (hc : ev ρ c = some (.bool true)) (h1 : PW X n ρ F Γ (x.wp P Q)) : PW X n ρ F Γ ((Code.cond c x y).wp P Q) :=
  fun a w ha hw => wp_cond_true (ha.eval hc) (h1 a w ha hw)
theorem w_condF {c : Operand} {x y : Code} (hc : ev ρ c = some (.bool false)) (h1 : PW X n ρ F Γ (y.wp P Q)) : PW X n ρ F Γ ((Code.cond c x y).wp P Q) :=
  fun a w ha hw => wp_cond_false (ha.eval hc) (h1 a w ha hw)
theorem w_region {i : Nat} {ops : Array Oper} (h : PW X n ρ F Γ (wpList P ops Q ops.toList)) : PW X n ρ F Γ ((Code.region i ops false).wp P Q) :=
  fun a w ha hw => wp_region_list (h a w ha hw)
theorem w_nil {ops : Array Oper} (h : PW X n ρ F Γ (Q .normal)) : PW X n ρ F Γ (wpList P ops Q []) := h

theorem q_then {K : Act → World → Prop} (h : PW X n ρ F Γ K) : PW X n ρ F Γ (Exit.then K Q .normal) := h
theorem q_thenE {K : Act → World → Prop} {i : Nat} (h : PW X n ρ F Γ (Q (.exit i))) : PW X n ρ F Γ (Exit.then K Q (.exit i)) := h
theorem q_thenR {K : Act → World → Prop} (h : PW X n ρ F Γ (Q .ret)) : PW X n ρ F Γ (Exit.then K Q .ret) := h
theorem q_in {i : Nat} (h : PW X n ρ F Γ (Q .normal)) : PW X n ρ F Γ (Exit.inBlock i Q .normal) := h
theorem q_inR {i : Nat} (h : PW X n ρ F Γ (Q .ret)) : PW X n ρ F Γ (Exit.inBlock i Q .ret) := h
theorem q_inE {i : Nat} (h : PW X n ρ F Γ (Q .normal)) : PW X n ρ F Γ (Exit.inBlock i Q (.exit i)) := fun a w ha hw => by
  simpa [Exit.inBlock] using h a w ha hw
theorem q_inN {i j : Nat} (hij : Nat.beq j i = false) (h : PW X n ρ F Γ (Q (.exit j))) : PW X n ρ F Γ (Exit.inBlock i Q (.exit j)) := fun a w ha hw => by
  have : j ≠ i := Nat.ne_of_beq_eq_false hij
  simpa [Exit.inBlock, this] using h a w ha hw

/-- Ways that meet again: a family of states. -/
def Jn {T : Type} (X : Cx) (n : Nat) (st : T → Regs × FH × Blks) (pr : T → Prop) (a : Act) (w : World) : Prop :=
  ∃ y, pr y ∧ Agree n (st y).1 a ∧ Holds X (st y).2.1 (st y).2.2 w

theorem w_join {T : Type} {c : Code} (st : T → Regs × FH × Blks) (pr : T → Prop) (h1 : PW X n ρ F Γ (c.wp P (Exit.then (Jn X n st pr) Q)))
    (h2 : ∀ y, pr y → PW X n (st y).1 (st y).2.1 (st y).2.2 (Q .normal)) : PW X n ρ F Γ (c.wp P Q) :=
  fun a w ha hw => Code.wp_mono (fun e a w q => by
    cases e with
    | normal => obtain ⟨y, hy, ha, hw⟩ := q; exact h2 y hy a w ha hw
    | _ => exact q) (h1 a w ha hw)

theorem q_join {T : Type} {st : T → Regs × FH × Blks} {pr : T → Prop} (y : T) (hy : pr y) (hs : Sub (st y).1 ρ) (hF : (st y).2.1 = F) (hG : (st y).2.2 = Γ) :
    PW X n ρ F Γ (Exit.then (Jn X n st pr) Q .normal) :=
  fun _ _ ha hw => ⟨y, hy, ha.sub hs, by rw [hF, hG]; exact hw⟩

/-- What a round must come to. -/
def Rnd {T : Type} (X : Cx) (n : Nat) (st : T → Regs × FH × Blks) (pr : T → Prop) (μ : T → Nat) (x : T) (a : Act) (w : World) : Prop :=
  ∃ y, pr y ∧ μ y < μ x ∧ Agree n (st y).1 a ∧ Holds X (st y).2.1 (st y).2.2 w

/-- A loop: a family of states, a measure. -/
theorem w_loop {T : Type} {c : Code} (st : T → Regs × FH × Blks) (pr : T → Prop) (μ : T → Nat) (x : T) (hx : pr x)
    (hs : Sub (st x).1 ρ) (hF : (st x).2.1 = F) (hG : (st x).2.2 = Γ)
    (round : ∀ x, pr x → PW X n (st x).1 (st x).2.1 (st x).2.2 (c.wp P (Exit.then (Rnd X n st pr μ x) Q))) :
    PW X n ρ F Γ ((Code.loop c).wp P Q) := by
  intro a w ha hw b k cs
  have key : ∀ m x a w, μ x = m → pr x → Agree n (st x).1 a → Holds X (st x).2.1 (st x).2.2 w →
      ∃ e a' w', Q e a' w' ∧ Arrives P (lone (b.at a (.code c :: .inLoop c :: k)) cs w) b k cs e a' w' := by
    intro m
    induction m using Nat.strongRecOn with
    | _ m ih =>
      intro x a w hm hp ha hw
      obtain ⟨e, a₁, w₁, hq, harr⟩ := round x hp a w ha hw b (.inLoop c :: k) cs
      cases e with
      | normal =>
        obtain ⟨y, hy, hlt, ha₁, hw₁⟩ := hq
        obtain ⟨e₂, a₂, w₂, hq₂, harr₂⟩ := ih (μ y) (hm ▸ hlt) y a₁ w₁ rfl hy ha₁ hw₁
        exact ⟨e₂, a₂, w₂, hq₂, .of_steps (Steps.trans harr (.one step_inLoop)) harr₂⟩
      | exit id => exact ⟨_, a₁, w₁, hq, .pass (x := .inLoop c) rfl (fun _ _ => .inl (by simp)) harr⟩
      | goto l => exact ⟨_, a₁, w₁, hq, .pass (x := .inLoop c) rfl (fun _ _ => .inl (by simp)) harr⟩
      | ret => exact ⟨_, a₁, w₁, hq, .pass (x := .inLoop c) rfl (fun _ _ => .inl (by simp)) harr⟩
      | panic ch => exact ⟨_, a₁, w₁, hq, .pass (x := .inLoop c) rfl (fun _ _ => .inl (by simp)) harr⟩
      | outgrown => exact ⟨_, a₁, w₁, hq, .pass (x := .inLoop c) rfl (fun _ _ => .inl (by simp)) harr⟩
  obtain ⟨e, a', w', hq, harr⟩ := key _ x a w rfl hx (ha.sub hs) (by rw [hF, hG]; exact hw)
  exact ⟨e, a', w', hq, .of_steps (.one step_loop) harr⟩

/-- The end of a round. -/
theorem q_round {T : Type} {st : T → Regs × FH × Blks} {pr : T → Prop} {μ : T → Nat} {x : T} (y : T) (hy : pr y) (hm : μ y < μ x)
    (hs : Sub (st y).1 ρ) (hF : (st y).2.1 = F) (hG : (st y).2.2 = Γ) :
    PW X n ρ F Γ (Exit.then (Rnd X n st pr μ x) Q .normal) :=
  fun _ _ ha hw => ⟨y, hy, hm, ha.sub hs, by rw [hF, hG]; exact hw⟩
end
end Go.SL
