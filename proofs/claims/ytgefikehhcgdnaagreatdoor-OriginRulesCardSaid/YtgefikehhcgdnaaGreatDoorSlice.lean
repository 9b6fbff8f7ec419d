/- Slices: what is read at a place, slices that the walk owns, append, conversions. No condition. -/
import Derived.Test.YtgefikehhcgdnaaGreatDoorStr
namespace Go.SL

/-- The cells from a place on, in the frozen heap. -/
def Cs (F : FH) (b off : Nat) (cs : List Value) : Prop := ∃ c u fz, F b = some (.cells (List.toArray c) u fz) ∧ seg c off cs.length = some cs

theorem Cs.mono {F G : FH} {b off : Nat} {cs : List Value} (h : Cs F b off cs) (hl : Le F G) : Cs G b off cs := by
  obtain ⟨c, u, fz, h1, h2⟩ := h
  exact ⟨c, u, fz, hl _ _ h1, h2⟩

theorem seg_of : ∀ {c : List Value} {o : Nat} {l : List Value}, (∀ j v, l[j]? = some v → c[o + j]? = some v) → o + l.length ≤ c.length ∨ l = [] ∧ o = 0 → seg c o l.length = some l
  | c, 0, [], _, _ => by cases c <;> rfl
  | [], o + 1, [], h, h2 => by simp at h2
  | [], o, v :: l, h, _ => by have := h 0 v (by simp); simp at this
  | u :: c, 0, v :: l, h, h2 => by
    have h0 := h 0 v (by simp)
    simp at h0
    subst h0
    simp only [List.length_cons, seg]
    rw [seg_of (c := c) (o := 0) (l := l) (fun j x hj => by have := h (j + 1) x (by simpa using hj); simpa using this) (by simp at h2; left; omega)]
  | u :: c, o + 1, l, h, h2 => by
    simp only [seg]
    refine seg_of (fun j x hj => ?_) ?_
    · have := h j x hj
      rw [show o + 1 + j = (o + j) + 1 by omega] at this
      simpa using this
    · rcases h2 with h2 | h2
      · simp at h2; left; omega
      · omega

theorem seg_le : ∀ {c : List Value} {o k : Nat} {l : List Value}, seg c o k = some l → k = 0 ∧ o ≤ c.length ∨ o + k ≤ c.length
  | c, 0, 0, l, _ => by simp
  | [], 0, _ + 1, l, h => by simp [seg] at h
  | [], _ + 1, _, l, h => by simp [seg] at h
  | v :: r, 0, k + 1, l, h => by
    simp only [seg] at h
    split at h
    · rename_i hm; have := seg_le hm; simp; omega
    · simp at h
  | _ :: r, o + 1, k, l, h => by
    simp only [seg] at h
    have := seg_le h; simp; omega

theorem Cs.cell {F : FH} {b off : Nat} {cs : List Value} (h : Cs F b off cs) {Γ : Blks} {w : World} (hw : Hp F Γ w) {j : Nat} {v : Value} (hj : cs[j]? = some v) :
    w.cell? ⟨b, off + j, none⟩ = some v := by
  obtain ⟨c, u, fz, h1, h2⟩ := h
  rw [cell_of (hw.fr _ _ h1)]
  have := (seg_spec h2).2 j v hj
  simpa using this

theorem Cs.sub {F : FH} {b off : Nat} {cs : List Value} (h : Cs F b off cs) (k m : Nat) (hk : k + m ≤ cs.length) : Cs F b (off + k) ((cs.drop k).take m) := by
  obtain ⟨c, u, fz, h1, h2⟩ := h
  refine ⟨c, u, fz, h1, seg_of (fun j v hj => ?_) ?_⟩
  · have h3 := (seg_spec h2).2 (k + j) v (by
      have hjm : j < m := by
        have := (List.getElem?_eq_some_iff.1 hj).1; simp at this; omega
      rw [List.getElem?_take_of_lt hjm, List.getElem?_drop] at hj; exact hj)
    rw [show off + k + j = off + (k + j) by omega]; exact h3
  · have := seg_le h2
    have hlen : ((cs.drop k).take m).length = m := by simp; omega
    rw [hlen]
    by_cases hm : m = 0
    · subst hm
      left
      rcases this with h | h
      · omega
      · omega
    · left; omega

section
variable {P : Program} {X : Cx} {n : Nat} {ρ : Regs} {F : FH} {Γ : Blks} {Q : Exit → Act → World → Prop} {ops : Array Oper} {rest : List Oper}

/-- A load out of the frozen heap. -/
theorem loadVarC_run {t : TypeId} {de : TypeDesc} {sz by' : Nat} {z v : Value} {b off k : Nat} {cs : List Value} {w : World} (ht : Ty P t de sz by' z)
    (h : Cs F b off cs) (hw : Hp F Γ w) (hv : ldv (isAggD de) sz cs k = some v) : (loadVar t ⟨b, off + k, none⟩).run P w = .ok v w := by
  unfold loadVar
  rw [Sem.run_bind, ht.agg, Result.andThen_ok]
  cases hA : isAggD de with
  | true =>
    rw [hA] at hv
    simp only [ldv] at hv
    split at hv
    · rename_i l hl
      simp at hv
      obtain ⟨h1, h2⟩ := seg_spec hl
      simp only [if_true]
      rw [Sem.run_bind, ht.size, Result.andThen_ok, Sem.run_bind, ← h1, run_loadCells_list w ⟨b, off + k, none⟩ l (fun j v hj => by
        rw [add_off, show off + k + j = off + (k + j) by omega]; exact h.cell hw (h2 j v hj))]
      simp [← hv]
    · simp at hv
  | false =>
    rw [hA] at hv
    simp only [ldv, nth_eq] at hv
    have hc := h.cell hw hv
    simp [hc]

theorem y_ldC {t ty : TypeId} {x : Operand} {de : TypeDesc} {sz by' : Nat} {z v : Value} {b off k : Nat} {cs : List Value}
    (ht : Ty P t de sz by' z) (hx : ev ρ x = some (.pointer (some ⟨b, off + k, none⟩))) (hC : Cs F b off cs) (hv : ldv (isAggD de) sz cs k = some v) :
    Yl P n ρ F Γ (.load t x) ty (v) := fun d pos af g a w ha hw => by simp [execOp, ha.eval hx, Instr.loadAt, Instr.sureAddr, loadVarC_run ht hC hw hv]

/-- A slice of the frozen heap; its elements' cells by enc. -/
def SlAt {α : Type} (F : FH) (enc : α → List Value) (v : Value) (l : List α) : Prop :=
  (l = [] ∧ ∃ a cap, v = .slice a 0 cap) ∨ ∃ b off cap, v = .slice (some ⟨b, off, none⟩) l.length cap ∧ l.length ≤ cap ∧ Cs F b off (l.flatMap enc)

theorem SlAt.mono {α : Type} {F G : FH} {enc : α → List Value} {v : Value} {l : List α} (h : SlAt F enc v l) (hl : Le F G) : SlAt G enc v l := by
  rcases h with h | ⟨b, off, cap, h1, h2, h3⟩
  · exact .inl h
  · exact .inr ⟨b, off, cap, h1, h2, h3.mono hl⟩

theorem SlAt.nil {α : Type} {F : FH} {enc : α → List Value} : SlAt F enc (.slice none 0 0) [] := .inl ⟨rfl, _, _, rfl⟩

theorem SlAt.form {α : Type} {F : FH} {enc : α → List Value} {v : Value} {l : List α} (h : SlAt F enc v l) : ∃ a cap, v = .slice a l.length cap ∧ (l = [] ∨ ∃ b off, a = some ⟨b, off, none⟩ ∧ l.length ≤ cap ∧ Cs F b off (l.flatMap enc)) := by
  rcases h with ⟨rfl, a, cap, rfl⟩ | ⟨b, off, cap, rfl, h2, h3⟩
  · exact ⟨a, cap, rfl, .inl rfl⟩
  · exact ⟨_, cap, rfl, .inr ⟨b, off, rfl, h2, h3⟩⟩

theorem flatMap_len {α : Type} {enc : α → List Value} {sz : Nat} (he : ∀ x, (enc x).length = sz) : ∀ (l : List α), (l.flatMap enc).length = l.length * sz
  | [] => by simp
  | x :: l => by simp only [List.flatMap_cons, List.length_append, he, flatMap_len he l, List.length_cons, Nat.add_mul]; omega

theorem flatMap_seg {α : Type} {enc : α → List Value} {sz : Nat} (he : ∀ x, (enc x).length = sz) : ∀ (l : List α) (i : Nat) (hi : i < l.length), seg (l.flatMap enc) (i * sz) sz = some (enc l[i])
  | [], _, h => by simp at h
  | x :: l, 0, _ => by
    have : seg ((x :: l).flatMap enc) 0 (enc x).length = some (enc x) := seg_of (fun j v hj => by
      have hlt := (List.getElem?_eq_some_iff.1 hj).1
      simp only [List.flatMap_cons, Nat.zero_add]
      rw [List.getElem?_append_left hlt]; exact hj) (by simp)
    simpa [he] using this
  | x :: l, i + 1, h => by
    have hi : i < l.length := by simpa using h
    have ih := flatMap_seg he l i hi
    obtain ⟨g1, g2⟩ := seg_spec ih
    have : seg ((x :: l).flatMap enc) ((i + 1) * sz) (enc l[i]).length = some (enc l[i]) := seg_of (fun j v hj => by
      have h3 := g2 j v hj
      simp only [List.flatMap_cons]
      rw [List.getElem?_append_right (by rw [he, Nat.add_mul]; omega), he, show (i + 1) * sz + j - sz = i * sz + j by rw [Nat.add_mul]; omega]
      exact h3) (by
        left
        rw [flatMap_len he, he]
        have : i + 1 ≤ l.length := by simp at h; omega
        have := Nat.mul_le_mul_right sz this
        simp [Nat.add_mul] at this ⊢; omega)
    simpa [he] using this

/-- The place of an element. -/
theorem y_ia {t e ty : TypeId} {x y : Operand} {b off len cap : Nat} {i : Int} {k : IntKind} {sz by' sz' by'' : Nat} {z z' : Value} {de : TypeDesc}
    (ht : Ty P t (.slice e) sz' by'' z') (he : Ty P e de sz by' z) (hx : ev ρ x = some (.slice (some ⟨b, off, none⟩) len cap)) (hy : ev ρ y = some (.int k i)) (hi : 0 ≤ i ∧ i < len) :
    Yl P n ρ F Γ (.indexAddr t x y) ty (.pointer (some ⟨b, off + i.toNat * sz, none⟩)) := fun d pos af g a w ha hw => by
    have hsz := he.size w
    simp [execOp, ha.eval hx, ha.eval hy, Instr.indexAt, asIntOf, underlying, ht.u, hi.1, hi.2, hsz, add_off]

/-- A slice that the walk owns: its elements' cells, how many, the block. -/
def Own (T : TypeId) (sz : Nat) (cs : List Value) (len : Nat) (v : Value) (Γo : Blks) : Prop :=
  cs.length = len * sz ∧
  ((v = .slice none 0 0 ∧ len = 0 ∧ Γo = []) ∨
   ∃ b cap junk fz, v = .slice (some ⟨b, 0, none⟩) len cap ∧ Γo = [(b, .cells (List.toArray (cs ++ junk)) T fz)] ∧ cs.length + junk.length = cap * sz ∧ len ≤ cap ∧ noFz fz 0 (cap * sz))

theorem Own.nil (T : TypeId) (sz : Nat) : Own T sz [] 0 (.slice none 0 0) [] := ⟨by simp, .inl ⟨rfl, rfl, rfl⟩⟩
theorem Own.nil' {T : TypeId} {sz : Nat} : Own T sz [] 0 (.slice none 0 0) [] := Own.nil T sz

/-- What append reads. -/
def Src (P : Program) (F : FH) (Γ : Blks) (sz : Nat) (x : Value) (k : Nat) (news : List Value) : Prop :=
  news.length = k * sz ∧ ∀ w, Hp F Γ w → (Builtin.lenOf x).run P w = .ok k w ∧ (Builtin.firstCells sz k x).run P w = .ok news.toArray w

theorem growBy_le : ∀ (r m c : Nat), Builtin.growBy m r c ≤ max c (m + (m + 768) / 4) ∨ r = 0 ∧ Builtin.growBy m r c = c ∨ Builtin.growBy m r c < m
  | 0, m, c => .inr (.inl ⟨rfl, rfl⟩)
  | r + 1, m, c => by
    simp only [Builtin.growBy]
    split
    · left; omega
    · rename_i h
      rcases growBy_le r m (c + (c + 768) / 4) with h1 | ⟨_, h1⟩ | h1
      · left; omega
      · left; omega
      · right; right; exact h1

theorem nextcap_le {m c : Nat} (h : c < m) : Builtin.nextslicecap m c ≤ 2 * m + 768 := by
  unfold Builtin.nextslicecap
  split
  · omega
  · split
    · omega
    · rcases growBy_le 4 m c with h1 | ⟨h1, _⟩ | h1
      · omega
      · omega
      · omega

theorem zeroCells_len (z : Array Value) (k : Nat) : (Builtin.zeroCells z k).size = k * z.size := by simp [Builtin.zeroCells]

theorem upd_app : ∀ (a b l : List Value), l.length ≤ b.length → upd (a ++ b) a.length l = some (a ++ l ++ b.drop l.length)
  | [], b, [], _ => by simp [upd_nil]
  | [], [], _ :: _, h => by simp at h
  | [], u :: b, v :: l, h => by
    have := upd_app [] b l (by simpa using h)
    simp only [List.nil_append, List.length_nil] at this ⊢
    simp only [upd, this]
    simp
  | x :: a, b, l, h => by
    have := upd_app a b l h
    simp only [List.cons_append, List.length_cons]
    cases hb : a ++ b with
    | nil =>
      have ha : a = [] := by simp at hb; exact hb.1
      have hb' : b = [] := by simp at hb; exact hb.2
      subst ha; subst hb'
      have hl : l = [] := by simpa using h
      subst hl
      rfl
    | cons y r =>
      rw [hb] at this
      simp only [upd, this]

theorem grownCap_ge (w : World) (m c : Nat) (e : TypeId) : m ≤ grownCap w m c e := by
  exact Nat.le_add_right _ _

theorem append_grow_run {t tx e ty : TypeId} {de dx : TypeDesc} {sz by' s1 b1 : Nat} {z z1 : Value} {base : Option Addr} {u : Value} {sLen sCap k : Nat} {olds news : List Value} {w : World}
    (ht : Ty P t (.slice e) s1 b1 z1) (htx : P.underlying tx = some dx) (hdx : (∃ e', dx = .slice e') ∨ dx = .string) (he : Ty P e de sz by' z)
    (h1 : (Builtin.lenOf u).run P w = .ok k w) (h2 : (Builtin.firstCells sz sLen (.slice base sLen sCap)).run P { w with drawn := w.drawn + 1 } = .ok olds.toArray { w with drawn := w.drawn + 1 })
    (h3 : (Builtin.firstCells sz k u).run P { w with drawn := w.drawn + 1 } = .ok news.toArray { w with drawn := w.drawn + 1 })
    (hg : sCap < sLen + k) (hb : sLen + k ≤ 1073741824) (hby : by' ≤ 4096) :
    (Builtin.append_ #[t, tx] ty #[.slice base sLen sCap, u]).run P w =
      .ok (.slice (some ⟨w.heap.size, 0, none⟩) (sLen + k) (grownCap w (sLen + k) sCap e))
        { w with drawn := w.drawn + 1, heap := w.heap.push (.cells (List.toArray (olds ++ news ++ (Builtin.zeroCells z.cells (grownCap w (sLen + k) sCap e - (sLen + k))).toList)) e) } := by
  obtain ⟨ie, hie, hies, hieb, hiez⟩ := he.i
  have hn : ¬ (sLen + k ≤ sCap) := by omega
  have h63' : ¬ (9223372036854775807 < ((sLen : Int) + (k : Int))) := by omega
  have h48' : ¬ (281474976710656 < Builtin.nextslicecap (sLen + k) sCap * ie.bytes) := by
    have h1 := nextcap_le hg
    have h2 : Builtin.nextslicecap (sLen + k) sCap * ie.bytes ≤ (2 * (sLen + k) + 768) * 4096 := Nat.mul_le_mul h1 (by omega)
    omega
  have hsz := he.size
  have harr : ∀ Z : Array Value, olds.toArray ++ (news.toArray ++ Z) = List.toArray (olds ++ (news ++ Z.toList)) := fun Z => by apply Array.ext'; simp
  simp only [World.drew_eq] at h2 h3 ⊢
  unfold Builtin.append_
  rcases hdx with ⟨e', rfl⟩ | rfl
  all_goals
    simp [run_underlying ht.u, run_underlying htx, hsz, h1, hn, h63', h48', typeInfo, zeroValue, hie, hiez, Question.forced, h2, h3, newRow, grownCap]
    exact congrArg (fun c => w.drew.alloc (.cells c e)) (harr _)

theorem append_room_run {t tx e ty : TypeId} {de dx : TypeDesc} {sz by' s1 b1 : Nat} {z z1 : Value} {a : Addr} {u : Value} {sLen sCap k : Nat} {news : List Value} {w w' : World}
    (ht : Ty P t (.slice e) s1 b1 z1) (htx : P.underlying tx = some dx) (hdx : (∃ e', dx = .slice e') ∨ dx = .string) (he : Ty P e de sz by' z)
    (h1 : (Builtin.lenOf u).run P w = .ok k w) (h3 : (Builtin.firstCells sz k u).run P w = .ok news.toArray w)
    (hg : sLen + k ≤ sCap) (h4 : (storeCells (a.add (sLen * sz)) news).run P w = .ok () w') :
    (Builtin.append_ #[t, tx] ty #[.slice (some a) sLen sCap, u]).run P w = .ok (.slice (some a) (sLen + k) sCap) w' := by
  have hsz := he.size
  unfold Builtin.append_
  rcases hdx with ⟨e', rfl⟩ | rfl
  all_goals
    simp [run_underlying ht.u, run_underlying htx, hsz, h1, hg, h3, h4]

theorem append_none_run {t tx e ty : TypeId} {de dx : TypeDesc} {sz by' s1 b1 : Nat} {z z1 : Value} {u : Value} {w : World}
    (ht : Ty P t (.slice e) s1 b1 z1) (htx : P.underlying tx = some dx) (hdx : (∃ e', dx = .slice e') ∨ dx = .string) (he : Ty P e de sz by' z)
    (h1 : (Builtin.lenOf u).run P w = .ok 0 w) (h3 : (Builtin.firstCells sz 0 u).run P w = .ok #[] w) :
    (Builtin.append_ #[t, tx] ty #[.slice none 0 0, u]).run P w = .ok (.slice none 0 0) w := by
  have hsz := he.size
  unfold Builtin.append_
  rcases hdx with ⟨e', rfl⟩ | rfl
  all_goals
    simp [run_underlying ht.u, run_underlying htx, hsz, h1, h3]

theorem e_app {d : Nat} {x y : Operand} {t tx e ty : TypeId} {pos : String} {af : Array Edge} {g : Option (Nat × Bool)} {K : Act → World → Prop} {v u : Value} {Γo Γr : Blks} {sz by' len k : Nat} {cs news : List Value} {z z1 : Value} {de dx : TypeDesc} {s1 b1 : Nat}
    (ht : Ty P t (.slice e) s1 b1 z1) (htx : P.underlying tx = some dx) (hdx : (∃ e', dx = .slice e') ∨ dx = .string) (he : Ty P e de sz by' z) (hz : (cellsL z).length = sz) (hx : ev ρ x = some v) (hy : ev ρ y = some u)
    (hO : Own e sz cs len v Γo) (hp : Γ.Perm (Γo ++ Γr)) (hS : Src P F Γ sz u k news) (hfl : flatL news = true) (hb : len + k ≤ 1073741824) (hby : by' ≤ 4096) (hd : Nat.blt d n = true)
    (kk : ∀ v' Γo', Own e sz (cs ++ news) (len + k) v' Γo' → PW X n ((d, v') :: ρ) F (Γo' ++ Γr) K) :
    PW X n ρ F Γ (fun a w => (Oper.mk (some d) (.call ⟨.builtin .append, #[x, y], #[t, tx]⟩) ty pos af g).wp P a w K Q) := by
  refine e_new (S := fun v' F' Γ' => ∃ Γo', Own e sz (cs ++ news) (len + k) v' Γo' ∧ F' = F ∧ Γ' = Γo' ++ Γr) hd (fun a w ha hw => ?_) (by rintro v' _ _ ⟨Γo', h1, rfl, rfl⟩; exact kk v' Γo' h1)
  have hw1 := hw.perm hp
  obtain ⟨hlen, hO⟩ := hO
  obtain ⟨hnews, hS⟩ := hS
  obtain ⟨hS1, hS2⟩ := hS w hw.hp
  obtain ⟨_, hS2d⟩ := hS { w with drawn := w.drawn + 1 } (hw.drawn _).hp
  have hrun : ∀ r w', (Builtin.append_ #[t, tx] ty #[v, u]).run P w = .ok r w' → (execOp a.eval ⟨some d, .call ⟨.builtin .append, #[x, y], #[t, tx]⟩, ty, pos, af, g⟩).run P w = .ok (.value r) w' := fun r w' h => by
    simp [execOp, resolve, ha.eval hx, ha.eval hy, invoke, builtin, h]
  have hnewlen : (cs ++ news).length = (len + k) * sz := by simp [hlen, hnews, Nat.add_mul]
  have hzs : z.cells.size = sz := by rw [cellsL_eq]; simpa using hz
  have grow : ∀ (base : Option Addr) (sCap : Nat), v = .slice base len sCap → sCap < len + k →
      (Builtin.firstCells sz len (.slice base len sCap)).run P { w with drawn := w.drawn + 1 } = .ok cs.toArray { w with drawn := w.drawn + 1 } →
      ∃ v' F' Γ' w', (execOp a.eval ⟨some d, .call ⟨.builtin .append, #[x, y], #[t, tx]⟩, ty, pos, af, g⟩).run P w = .ok (.value v') w' ∧ (∃ Γo', Own e sz (cs ++ news) (len + k) v' Γo' ∧ F' = F ∧ Γ' = Γo' ++ Γr) ∧ Holds X F' Γ' w' := by
    intro base sCap hv hg hf
    subst hv
    refine ⟨_, F, _, _, hrun _ _ (append_grow_run ht htx hdx he hS1 hf hS2d hg hb hby), ⟨[_], ⟨hnewlen, .inr ⟨w.heap.size, _, (Builtin.zeroCells z.cells (grownCap w (len + k) sCap e - (len + k))).toList, (0, 0), rfl, rfl, ?_, ?_, noFz0⟩⟩, rfl, rfl⟩, ((hw1.right).drawn (w.drawn + 1)).push _⟩
    · have hge := grownCap_ge w (len + k) sCap e
      rw [hnewlen, Array.length_toList, zeroCells_len, hzs, ← Nat.add_mul]
      congr 1; omega
    · exact grownCap_ge w (len + k) sCap e
  rcases hO with ⟨rfl, rfl, rfl⟩ | ⟨b, cap, junk, fz, rfl, rfl, hcap, hle, hfz⟩
  · -- the nil slice
    have hcs : cs = [] := by simpa using hlen
    subst hcs
    by_cases hk : k = 0
    · subst hk
      have hn0 : news = [] := by simpa using hnews
      subst hn0
      exact ⟨.slice none 0 0, F, Γr, w, hrun _ _ (append_none_run ht htx hdx he hS1 hS2), ⟨[], ⟨by simp, .inl ⟨rfl, rfl, rfl⟩⟩, rfl, rfl⟩, hw1⟩
    · exact grow none 0 rfl (by omega) (by simp [Builtin.firstCells])
  · have hblk : w.heap[b]? = some (.cells (List.toArray (cs ++ junk)) e fz) := hw1.own (b, .cells (List.toArray (cs ++ junk)) e fz) (by simp)
    by_cases hg : len + k ≤ cap
    · have hle2 : news.length ≤ junk.length := by
        have : (len + k) * sz ≤ cap * sz := Nat.mul_le_mul_right sz hg
        rw [Nat.add_mul] at this
        omega
      have hu := upd_app cs junk news hle2
      have hst := storeCells_run (P := P) (b := b) (u := e) (fz := fz) cs.length news 0 (cs ++ junk) _ w hfl hblk hu (fun j hj hj' => hfz j (by omega) (by omega))
      refine ⟨_, F, _, _, hrun _ _ (append_room_run ht htx hdx he hS1 hS2 hg (by rw [add_off, Nat.zero_add, ← hlen]; exact hst)), ⟨[_], ⟨hnewlen, .inr ⟨b, cap, junk.drop news.length, fz, rfl, rfl, ?_, hg, hfz⟩⟩, rfl, rfl⟩, Holds.set hw1⟩
      simp only [List.length_append, List.length_drop]; omega
    · refine grow _ cap rfl (by omega) ?_
      have hblk' : ({ w with drawn := w.drawn + 1 } : World).heap[b]? = some (.cells (List.toArray (cs ++ junk)) e fz) := hblk
      simp only [Builtin.firstCells]
      rw [← hlen]
      exact run_loadCells_list _ ⟨b, 0, none⟩ cs (fun j v hj => by
        rw [add_off, cell_of hblk']
        have hlt := (List.getElem?_eq_some_iff.1 hj).1
        simp [List.getElem?_append_left hlt, hj])
end
end Go.SL
