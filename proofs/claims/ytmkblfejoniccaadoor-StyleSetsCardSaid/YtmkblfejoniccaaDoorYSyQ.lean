/-
  Layer 11 (style): the laws' raw style, and what told makes of it: plain; a style is the same as itself.
-/
import Derived.Test.YtmkblfejoniccaaDoorZ14
import Derived.ChangeKeysEq
namespace Go.Proofs.YtmkblfejoniccaaDoor
open Go Go.RowKit
set_option linter.unusedSimpArgs false
set_option linter.unusedVariables false

theorem flo_fromS (b : Nat) (w : World) : (callFunc 16 #[.int .u64 (b : Int)]).run Tryd.prog w = .ok (.value (.float .f64 b)) w := by
  rw [run_callFunc_extern Tryd.func16 (by kernel_rfl) (by kernel_rfl) (by kernel_rfl) (e := Extern.MathFloatBits.float64frombits) (by kernel_rfl)]
  rfl
/-- A raw style as the laws have it. -/
def lawF (x : Rs) (k : Nat) : Value := if k < 64 then refF x k else .int .u8 x.C
theorem law_ref {x : Rs} {k : Nat} (h : k < 64) : lawF x k = refF x k := if_pos h
def T1 (x : Rs) (i : Nat) : Rs where
  L := fun j => if j < i then x.L j else 0
  P := fun j => if j < i then x.P j else false
  N := fun _ => 0
  W := x.W
  B := x.B
  C := x.C
def T2 (x : Rs) (i : Nat) : Rs where
  L := x.L
  P := x.P
  N := fun j => if j < i then x.N j else 0
  W := x.W
  B := x.B
  C := x.C
theorem T1_set (x : Rs) (i : Nat) (hi : i < 19) : ((cellsF 65 (rawF (T1 x i))).setIfInBounds (i * 2) (.float .f64 (x.L i))).setIfInBounds (i * 2 + 1) (.bool (x.P i)) = cellsF 65 (rawF (T1 x (i + 1))) := by
  rw [cellsF_set, cellsF_set]
  refine cellsF_ext (fun k hk => ?_)
  by_cases h1 : k = i * 2 + 1
  · rw [if_pos h1]
    subst h1
    unfold rawF
    rw [if_pos (by omega), if_neg (by omega), show (i * 2 + 1) / 2 = i by omega]
    simp [T1]
  · rw [if_neg h1]
    by_cases h2 : k = i * 2
    · rw [if_pos h2]
      subst h2
      unfold rawF
      rw [if_pos (by omega), if_pos (by omega), show i * 2 / 2 = i by omega]
      simp [T1]
    · rw [if_neg h2]
      unfold rawF
      by_cases h3 : k < 38
      · rw [if_pos h3, if_pos h3]
        have e : (k / 2 < i) = (k / 2 < i + 1) := by apply propext; omega
        simp only [T1, e]
      · rw [if_neg h3, if_neg h3]
        rfl
theorem T1_end (x : Rs) : cellsF 65 (rawF (T1 x 19)) = cellsF 65 (rawF (T2 x 0)) := by
  refine cellsF_ext (fun k hk => ?_)
  unfold rawF
  by_cases h : k < 38
  · rw [if_pos h, if_pos h]
    simp only [T1, T2, show k / 2 < 19 by omega, if_true]
  · rw [if_neg h, if_neg h]
    simp [T1, T2]
theorem T2_set (x : Rs) (i : Nat) (hi : i < 10) : (cellsF 65 (rawF (T2 x i))).setIfInBounds (38 + i) (.float .f64 (x.N i)) = cellsF 65 (rawF (T2 x (i + 1))) := by
  rw [cellsF_set]
  refine cellsF_ext (fun k hk => ?_)
  unfold rawF
  by_cases h1 : k = 38 + i
  · rw [if_pos h1]
    subst h1
    rw [if_neg (by omega), if_pos (by omega), show 38 + i - 38 = i by omega]
    simp [T2]
  · rw [if_neg h1]
    by_cases h3 : k < 38
    · rw [if_pos h3, if_pos h3]
      rfl
    · rw [if_neg h3, if_neg h3]
      by_cases h4 : k < 48
      · rw [if_pos h4, if_pos h4]
        have e : (k - 38 < i) = (k - 38 < i + 1) := by apply propext; omega
        simp only [T2, e]
      · rw [if_neg h4, if_neg h4]
        rfl
theorem T2_end (x : Rs) : cellsF 65 (rawF (T2 x 10)) = cellsF 65 (rawF x) := by
  refine cellsF_ext (fun k hk => ?_)
  unfold rawF
  by_cases h : k < 38
  · rw [if_pos h, if_pos h]
    rfl
  · rw [if_neg h, if_neg h]
    by_cases h4 : k < 48
    · rw [if_pos h4, if_pos h4]
      simp only [T2, show k - 38 < 10 by omega, if_true]
    · rw [if_neg h4, if_neg h4]
      rfl
/-- A value is the same as itself. -/
def SelfEq (d : Nat) (t : TypeId) (v : Value) : Prop := ∀ w, (Op.equalIn d t v v).run Tryd.prog w = .ok true w
theorem self_int {d : Nat} {t : TypeId} {k k' : IntKind} {a : Int} (h : Tryd.prog.underlying t = some (.int k')) : SelfEq (d + 1) t (.int k a) := fun w => by
  rw [run_equalIn_int w d t k k' a a h]
  simp
theorem self_bool {d : Nat} {t : TypeId} {a : Bool} (h : Tryd.prog.underlying t = some .bool) : SelfEq (d + 1) t (.bool a) := fun w => by
  rw [run_equalIn_bool' w d t a a h]
  simp
theorem self_items {d c : Nat} {e : TypeId} {xs : Array Value} : ∀ (is : List Nat), (∀ i, i ∈ is → ∃ v, (∀ w, (part e xs (i * c)).run Tryd.prog w = .ok v w) ∧ SelfEq d e v) → ∀ w, (Op.eqItems d e c xs xs is).run Tryd.prog w = .ok true w
  | [], _, w => by simp [Op.eqItems]
  | i :: is, h, w => by
    obtain ⟨v, h1, h2⟩ := h i (by simp)
    have ih := self_items is (fun j hj => h j (by simp [hj])) w
    simp only [Op.eqItems, Sem.run_bind, h1 w, Result.andThen_ok, h2 w]
    simpa using ih
theorem self_fields {d : Nat} {xs : Array Value} : ∀ (fs : List Field), (∀ f, f ∈ fs → ∃ v, (∀ w, (part f.type xs f.offset).run Tryd.prog w = .ok v w) ∧ SelfEq d f.type v) → ∀ w, (Op.eqFields d xs xs fs).run Tryd.prog w = .ok true w
  | [], _, w => by simp [Op.eqFields]
  | f :: fs, h, w => by
    obtain ⟨v, h1, h2⟩ := h f (by simp)
    have ih := self_fields fs (fun j hj => h j (by simp [hj])) w
    unfold Op.eqFields
    split
    · simp only [Sem.run_bind, h1 w, Result.andThen_ok, h2 w]
      simpa using ih
    · exact ih
theorem self_struct {d : Nat} {t : TypeId} {fs : Array Field} {xs : Array Value} (hu : Tryd.prog.underlying t = some (.struct fs)) (hp : Tryd.prog.stoodInHeld t = false)
    (h : ∀ f, f ∈ fs.toList → ∃ v, (∀ w, (part f.type xs f.offset).run Tryd.prog w = .ok v w) ∧ SelfEq d f.type v) : SelfEq (d + 1) t (.agg xs) := fun w => by
  have e : Tryd.prog.fieldsOf t = fs := by simp [Program.fieldsOf, hu]
  rw [run_equalIn_struct w d t xs xs (by rw [e]; exact hu) hp, e]
  exact self_fields _ h w
theorem self_array {d n : Nat} {t e : TypeId} {xs : Array Value} (hu : Tryd.prog.underlying t = some (.array n e)) (hi : (Tryd.prog.info? e).isSome = true)
    (h : ∀ i, i < n → ∃ v, (∀ w, (part e xs (i * Tryd.prog.cellsOf e)).run Tryd.prog w = .ok v w) ∧ SelfEq d e v) : SelfEq (d + 1) t (.agg xs) := fun w => by
  obtain ⟨i, hi⟩ := Option.isSome_iff_exists.1 hi
  rw [run_equalIn_array w d xs xs hu hi]
  exact self_items _ (fun i hi => h i (by simpa using hi)) w
theorem part_agg {T : TypeId} {m n o : Nat} {f : Nat → Value} (h : o + m ≤ n) (ha : ∀ w, (isAgg T).run Tryd.prog w = .ok true w) (hz : ∀ w, (sizeOf T).run Tryd.prog w = .ok m w) (w : World) : (part T (cellsF n f) o).run Tryd.prog w = .ok (.agg (cellsF m (fun k => f (o + k)))) w := by
  simp [part, Sem.run_bind, ha, hz, cellsF_extract n f o m h]
theorem part_at {e : TypeId} {n i : Nat} {f : Nat → Value} (he : Tryd.prog.plainKey e = true) (hi : i < n) (w : World) : (part e (cellsF n f) i).run Tryd.prog w = .ok (f i) w := run_part_plain w he (cellsF_get f hi)
/-- An array of whole numbers. -/
theorem self_ints {d n : Nat} {t e : TypeId} {k : IntKind} {f : Nat → Value} (hu : Tryd.prog.underlying t = some (.array n e)) (hi : (Tryd.prog.info? e).isSome = true) (hc : Tryd.prog.cellsOf e = 1) (hk : Tryd.prog.plainKey e = true) (he : Tryd.prog.underlying e = some (.int k)) (h : ∀ i, i < n → ∃ z, f i = .int k z) : SelfEq (d + 2) t (.agg (cellsF n f)) :=
  self_array hu hi (fun i hi => by
    rw [hc, Nat.mul_one]
    obtain ⟨z, e⟩ := h i hi
    exact ⟨f i, part_at hk hi, by rw [e]; exact self_int he⟩)
theorem self_val {d : Nat} (f : Nat → Value) (a b : Int) (h0 : f 0 = .int .i64 a) (h1 : f 1 = .int .i64 b) : SelfEq (d + 2) 62 (.agg (cellsF 2 f)) := by
  refine self_struct Tryd.underlying62 (by kernel_rfl) (fun g hg => ?_)
  simp only [List.mem_cons, List.not_mem_nil, or_false] at hg
  rcases hg with rfl | rfl
  · exact ⟨_, part_at (by kernel_rfl) (show 0 < 2 by omega), by rw [h0]; exact self_int (k' := .i64) (by kernel_rfl)⟩
  · exact ⟨_, part_at (by kernel_rfl) (show 1 < 2 by omega), by rw [h1]; exact self_int (k' := .i64) (by kernel_rfl)⟩
theorem sty_self (K n N : Nat → Int) (a : Bool) (W : Nat → Int) (c : Int) (w : World) : (Op.equalIn 10000 66 (.agg (cellsF 62 (styF K n N a W c))) (.agg (cellsF 62 (styF K n N a W c)))).run Tryd.prog w = .ok true w := by
  refine self_struct (d := 9999) Tryd.underlying66 (by kernel_rfl) (fun g hg => ?_) w
  simp only [List.mem_cons, List.not_mem_nil, or_false] at hg
  rcases hg with rfl | rfl | rfl | rfl | rfl
  · refine ⟨_, part_agg (m := 38) (n := 62) (o := 0) (by omega) (fun _ => by kernel_rfl) (fun _ => by kernel_rfl), ?_⟩
    refine self_array (d := 9998) Tryd.underlying63 (by kernel_rfl) (fun i hi => ?_)
    rw [show Tryd.prog.cellsOf 62 = 2 by kernel_rfl]
    refine ⟨_, part_agg (m := 2) (o := i * 2) (by omega) (fun _ => by kernel_rfl) (fun _ => by kernel_rfl), ?_⟩
    refine self_val (d := 9996) _ (K i) (n i) ?_ ?_
    · show styF K n N a W c (0 + (i * 2 + 0)) = _
      unfold styF
      rw [if_pos (by omega), if_pos (by omega), show (0 + (i * 2 + 0)) / 2 = i by omega]
    · show styF K n N a W c (0 + (i * 2 + 1)) = _
      unfold styF
      rw [if_pos (by omega), if_neg (by omega), show (0 + (i * 2 + 1)) / 2 = i by omega]
  · refine ⟨_, part_agg (m := 10) (n := 62) (o := 38) (by omega) (fun _ => by kernel_rfl) (fun _ => by kernel_rfl), ?_⟩
    refine self_ints (d := 9997) Tryd.underlying64 (by kernel_rfl) (by kernel_rfl) (by kernel_rfl) Tryd.underlying2 (fun i hi => ⟨N i, ?_⟩)
    show styF K n N a W c (38 + i) = _
    unfold styF
    rw [if_neg (by omega), if_pos (by omega), show 38 + i - 38 = i by omega]
  · exact ⟨_, part_at (by kernel_rfl) (show 48 < 62 by omega), self_bool (d := 9998) (by kernel_rfl)⟩
  · refine ⟨_, part_agg (m := 12) (n := 62) (o := 49) (by omega) (fun _ => by kernel_rfl) (fun _ => by kernel_rfl), ?_⟩
    refine self_ints (d := 9997) Tryd.underlying57 (by kernel_rfl) (by kernel_rfl) (by kernel_rfl) Tryd.underlying3 (fun i hi => ⟨W i, ?_⟩)
    show styF K n N a W c (49 + i) = _
    unfold styF
    rw [if_neg (by omega), if_neg (by omega), if_neg (by omega), if_pos (by omega), show 49 + i - 49 = i by omega]
  · exact ⟨_, part_at (by kernel_rfl) (show 61 < 62 by omega), self_int (d := 9998) (k' := .u8) (by kernel_rfl)⟩
theorem num_self (N : Nat → Int) (w : World) : (Op.equalIn 10000 64 (.agg (cellsF 10 (fun k => .int .i64 (N k)))) (.agg (cellsF 10 (fun k => .int .i64 (N k))))).run Tryd.prog w = .ok true w :=
  self_ints (d := 9998) Tryd.underlying64 (by kernel_rfl) (by kernel_rfl) (by kernel_rfl) Tryd.underlying2 (fun i _ => ⟨N i, rfl⟩) w
theorem wrd_self (N : Nat → Int) (w : World) : (Op.equalIn 10000 57 (.agg (cellsF 12 (fun k => .int .i64 (N k)))) (.agg (cellsF 12 (fun k => .int .i64 (N k))))).run Tryd.prog w = .ok true w :=
  self_ints (d := 9998) Tryd.underlying57 (by kernel_rfl) (by kernel_rfl) (by kernel_rfl) Tryd.underlying3 (fun i _ => ⟨N i, rfl⟩) w
theorem val_self (a b : Int) (w : World) : (Op.equalIn 10000 76 (.agg #[.int .i64 a, .int .i64 b]) (.agg #[.int .i64 a, .int .i64 b])).run Tryd.prog w = .ok true w := by
  refine self_struct (d := 9999) Tryd.underlying76 (by kernel_rfl) (fun g hg => ?_) w
  simp only [List.mem_cons, List.not_mem_nil, or_false] at hg
  rcases hg with rfl | rfl
  · exact ⟨.int .i64 a, fun w => run_part_plain w (by kernel_rfl) rfl, self_int (k' := .i64) (by kernel_rfl)⟩
  · exact ⟨.int .i64 b, fun w => run_part_plain w (by kernel_rfl) rfl, self_int (k' := .i64) (by kernel_rfl)⟩
end Go.Proofs.YtmkblfejoniccaaDoor
