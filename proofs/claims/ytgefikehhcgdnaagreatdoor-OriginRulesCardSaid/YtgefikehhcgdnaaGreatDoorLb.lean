import Derived.Test.YtgefikehhcgdnaaGreatDoorTok
import Derived.Test.YtgefikehhcgdnaaGreatDoorLib
import Derived.Shelf.Strings.SlTrimAscii

/- The library's contracts, as the walks take them. No condition. -/
namespace Go.SL
open Go.Proofs Go.Shelf
set_option maxRecDepth 10000

/-- The package variables of the library that the walks read. -/
structure Glob (F : FH) : Prop where
  pow : ∃ u fz, F 1 = some (.cells (Lib.pow10Tab.map fun z => Value.int .u64 z).toArray u fz)
structure GlobM (F : FH) : Prop where
  max : ∃ m u fz, F 0 = some (.cells #[.int .i64 m] u fz)

theorem Glob.mono {F G : FH} (h : Glob F) (hl : Le F G) : Glob G := by
  obtain ⟨u, fz, h1⟩ := h.pow
  exact ⟨u, fz, hl _ _ h1⟩
theorem GlobM.mono {F G : FH} (h : GlobM F) (hl : Le F G) : GlobM G := by
  obtain ⟨m, u', fz', h2⟩ := h.max
  exact ⟨m, u', fz', hl _ _ h2⟩

theorem Glob.tab {F : FH} (h : Glob F) {w : World} (hw : Hp F [] w) : Lib.TabIs Tryz.prog w "internal/strconv.uint64pow10" .u64 Lib.pow10Tab := by
  obtain ⟨u, fz, h1⟩ := h.pow
  have hg : Program.globalNamed Tryz.prog "internal/strconv.uint64pow10" = some 1 := by kernel_rfl
  unfold Lib.TabIs World.var?
  rw [hg]
  simp only [Option.bind_some, hw.fr _ _ h1]

theorem GlobM.len {F : FH} (h : GlobM F) {w : World} (hw : Hp F [] w) : ∃ m, w.cell? ⟨0, 0, none⟩ = some (.int .i64 m) := by
  obtain ⟨m, u, fz, h1⟩ := h.max
  refine ⟨m, ?_⟩
  have := hw.fr _ _ h1
  simp [World.cell?, this]

theorem c_HasPrefix (l p : List UInt8) (F : FH) : FnV Tryz.prog 49 [str l, str p] F (.bool (Lib.hasPrefix l p)) :=
  fnv_same (⟨_, Tryz.func49, by kernel_rfl, rfl⟩ : Callable Tryz.prog 49) fun w _ => Tryz.strings_HasPrefix ⟨l.toArray⟩ ⟨p.toArray⟩ w
theorem c_IndexByte (l : List UInt8) (c : UInt8) (F : FH) : FnV Tryz.prog 95 [str l, byte (c.toNat : Int)] F (int (Lib.indexByte l c)) :=
  fnv_same (⟨_, Tryz.func95, by kernel_rfl, rfl⟩ : Callable Tryz.prog 95) fun w _ => by
    have h := Tryz.strings_IndexByte ⟨l.toArray⟩ (c.toNat : Int) w
    simpa using h
theorem c_CutPrefix (l p : List UInt8) (F : FH) : FnV Tryz.prog 111 [str l, str p] F (.tuple #[str (Lib.trimPrefix l p), .bool (Lib.hasPrefix l p)]) :=
  fnv_same (⟨_, Tryz.func111, by kernel_rfl, rfl⟩ : Callable Tryz.prog 111) fun w _ => Tryz.strings_CutPrefix ⟨l.toArray⟩ ⟨p.toArray⟩ w
theorem c_CutSuffix (l p : List UInt8) (hl : l.length ≤ 4000000000) (F : FH) : FnV Tryz.prog 112 [str l, str p] F (.tuple #[str (Lib.trimSuffix l p), .bool (Lib.hasSuffix l p)]) :=
  fnv_same (⟨_, Tryz.func112, by kernel_rfl, rfl⟩ : Callable Tryz.prog 112) fun w _ => Tryz.strings_CutSuffix ⟨l.toArray⟩ ⟨p.toArray⟩ w (by rw [bsz]; omega)
theorem c_Itoa (n : Int) (h : -9223372036854775808 ≤ n ∧ n ≤ 9223372036854775807) (F : FH) (hG : Glob F) : FnV Tryz.prog 65 [int n] F (str (Lib.itoa n)) :=
  fnv_below (⟨_, Tryz.func65, by kernel_rfl, rfl⟩ : Callable Tryz.prog 65) fun w hw => (Tryz.strconv_Itoa n h.1 h.2 w (hG.tab hw)).mono fun e w' ⟨he, k, os, hw'⟩ => ⟨he, by
    subst hw'
    exact below_grow k os⟩
theorem c_Cut (l p : List UInt8) (hl : l.length ≤ 4000000000) (F : FH) (hM : GlobM F) : FnV Tryz.prog 173 [str l, str p] F (.tuple #[str (Lib.cut l p).1, str (Lib.cut l p).2.1, .bool (Lib.cut l p).2.2]) :=
  fnv_below (⟨_, Tryz.func173, by kernel_rfl, rfl⟩ : Callable Tryz.prog 173) fun w hw => by
    obtain ⟨m, hm⟩ := hM.len hw
    exact (Tryz.strings_Cut ⟨l.toArray⟩ ⟨p.toArray⟩ m w (by rw [bsz]; omega) hm).mono fun e w' ⟨he, k, hw'⟩ => ⟨he, by
      subst hw'; exact below_drewN k⟩
theorem blank_contains (c : UInt8) : ([32, 9] : List UInt8).contains c = isBlankB c := by
  rw [Bool.eq_iff_iff]
  simp only [List.contains_eq_mem, List.mem_cons, List.not_mem_nil, or_false, decide_eq_true_eq, isBlankB]
  constructor
  · rintro (rfl | rfl) <;> decide
  · rintro (h | h)
    · left; exact UInt8.toNat_inj.1 h
    · right; exact UInt8.toNat_inj.1 h
theorem trimS_eq (l : List UInt8) : Lib.trimS l [32, 9] = trimL l := by
  unfold Lib.trimS Lib.trimLeftS Lib.trimRightS trimL
  simp only [blank_contains]
theorem c_TrimLib (l : List UInt8) (hl : l.length ≤ 4000000000) (F : FH) : FnV Tryz.prog 160 [str l, str [32, 9]] F (str (trimL l)) :=
  fnv_below (⟨_, Tryz.func160, by kernel_rfl, rfl⟩ : Callable Tryz.prog 160) fun w _ => by
    have h := Any.strings_Trim_laid Tryz.lays160 (by kernel_rfl) ⟨l.toArray⟩ ⟨#[32, 9]⟩ w (by rw [bsz]; omega) (by decide) (ascii_of_all (by decide))
    rw [← trimS_eq]
    exact h

theorem c_Trim (l : List UInt8) (hl : l.length ≤ 4000000000) (F : FH) : FnV Tryz.prog 102 [str l] F (str (trimL l)) := by
  refine fn_walk Tryz.func102 (by kernel_rfl) rfl rfl rfl ?_
  intro w0
  simp only [numb, List.map_nil, List.map_cons, Nat.zero_add, Nat.reduceAdd, List.cons_append, List.nil_append]
  refine w_seq ?_
  refine w_region ?_
  refine o_run rfl (e_val rfl (y_p rfl) ?_)
  refine w_nil ?_
  refine q_then ?_
  refine w_seq ?_
  refine w_region ?_
  refine o_run rfl (e_val rfl (y_p rfl) ?_)
  refine o_run rfl (e_callV rfl rfl (c_TrimLib _ hl _) rfl ?_)
  refine o_run rfl (e_val rfl (y_p rfl) ?_)
  refine w_nil ?_
  refine q_then ?_
  refine w_ret ?_
  refine r_one rfl rfl ?_
  -- leaf 1
  rfl

theorem c_Value (l : List UInt8) (hl : l.length ≤ 4000000000) (F : FH) : FnV Tryz.prog 232 [str l] F (.bool (valueB l)) := by
  refine fn_walk Tryz.func232 (by kernel_rfl) rfl rfl rfl ?_
  intro w0
  simp only [numb, List.map_nil, List.map_cons, Nat.zero_add, Nat.reduceAdd, List.cons_append, List.nil_append]
  refine w_seq ?_
  refine w_region ?_
  refine o_run rfl (e_val rfl (y_p rfl) ?_)
  refine w_nil ?_
  refine q_then ?_
  refine w_seq ?_
  refine w_region ?_
  refine o_run rfl (e_val rfl (y_p rfl) ?_)
  refine o_run rfl (e_callV rfl rfl (c_Trim _ (by omega) _) rfl ?_)
  refine o_run rfl (e_val rfl (y_p rfl) ?_)
  refine o_run rfl (e_val rfl (y_p rfl) ?_)
  refine o_run rfl (e_val rfl (y_p rfl) ?_)
  first | refine PW.wayD (t := 7) rfl rfl (fun h1 => ?_) (fun h1 => ?_) | refine PW.way (t := 7) rfl rfl (fun h1 => ?_) (fun h1 => ?_)
  · refine o_yes rfl rfl rfl (e_val rfl (y_p rfl) ?_)
    refine o_yes rfl rfl rfl (e_callV rfl rfl (c_all _ hl inValueB _ [] _ (fun c => c_inValue c _)) rfl ?_)
    refine o_run rfl (e_val rfl (y_p rfl) ?_)
    refine o_run rfl (e_val rfl (y_p rfl) ?_)
    refine w_nil ?_
    refine q_then ?_
    refine w_ret ?_
    refine r_one rfl rfl ?_
    -- leaf 1
    simp only [valueB]; rw [decide_eq_true h1, Bool.true_and]
  · refine g_no rfl rfl rfl rfl ?_
    refine g_no rfl rfl rfl rfl ?_
    refine o_run rfl (e_val rfl (y_p rfl) ?_)
    refine o_run rfl (e_val rfl (y_p rfl) ?_)
    refine w_nil ?_
    refine q_then ?_
    refine w_ret ?_
    refine r_one rfl rfl ?_
    -- leaf 2
    simp only [valueB]; rw [decide_eq_false h1, Bool.false_and]

theorem c_Same (a b : List UInt8) (ha : a.length ≤ 4000000000) (hb : b.length ≤ 4000000000) (F : FH) : FnV Tryz.prog 60 [str a, str b] F (.bool (sameB a b)) := by
  refine fn_walk Tryz.func60 (by kernel_rfl) rfl rfl rfl ?_
  intro w0
  simp only [numb, List.map_nil, List.map_cons, Nat.zero_add, Nat.reduceAdd, List.cons_append, List.nil_append]
  refine w_seq ?_
  refine w_region ?_
  refine o_run rfl (e_val rfl (y_p rfl) ?_)
  refine w_nil ?_
  refine q_then ?_
  refine w_seq ?_
  refine w_region ?_
  refine o_run rfl (e_val rfl (y_p rfl) ?_)
  refine o_run rfl (e_val rfl (y_lenS ty9 rfl) ?_)
  refine o_run rfl (e_val rfl (y_p rfl) ?_)
  refine o_run rfl (e_val rfl (y_lenS ty9 rfl) ?_)
  refine o_run rfl (e_val rfl (y_p rfl) ?_)
  refine o_run rfl (e_val rfl (y_p rfl) ?_)
  first | refine PW.wayD (t := 10) rfl rfl (fun h1 => ?_) (fun h1 => ?_) | refine PW.way (t := 10) rfl rfl (fun h1 => ?_) (fun h1 => ?_)
  · refine o_yes rfl rfl rfl (e_val rfl (y_p rfl) ?_)
    refine o_yes rfl rfl rfl (e_callV rfl rfl (c_Lower _ (by omega) _) rfl ?_)
    refine o_yes rfl rfl rfl (e_val rfl (y_p rfl) ?_)
    refine o_yes rfl rfl rfl (e_callV rfl rfl (c_Lower _ (by omega) _) rfl ?_)
    refine o_yes rfl rfl rfl (e_val rfl (y_p rfl) ?_)
    refine o_run rfl (e_val rfl (y_p rfl) ?_)
    refine o_run rfl (e_val rfl (y_p rfl) ?_)
    refine w_nil ?_
    refine q_then ?_
    refine w_ret ?_
    refine r_one rfl rfl ?_
    -- leaf 1
    simp only [sameB]; rw [decide_eq_true (show a.length = b.length by omega), Bool.true_and]
  · refine g_no rfl rfl rfl rfl ?_
    refine g_no rfl rfl rfl rfl ?_
    refine g_no rfl rfl rfl rfl ?_
    refine g_no rfl rfl rfl rfl ?_
    refine g_no rfl rfl rfl rfl ?_
    refine o_run rfl (e_val rfl (y_p rfl) ?_)
    refine o_run rfl (e_val rfl (y_p rfl) ?_)
    refine w_nil ?_
    refine q_then ?_
    refine w_ret ?_
    refine r_one rfl rfl ?_
    -- leaf 2
    simp only [sameB]; rw [decide_eq_false (show ¬ a.length = b.length by omega), Bool.false_and]

end Go.SL
