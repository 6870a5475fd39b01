/-
  A walker by reckoning: the hooks of all calls; what calls leave that touch nothing.
-/
/-
  A walker by reckoning: the names of TopZooms' numbers; what is known of them.
-/
/-
  A walker by reckoning: what the calls with no names leave.
-/
/-
  A walker by reckoning: maps.Clone at this program.
-/
/-
  A walker by reckoning: width.Solve where the width is told by a name, by the walker itself: room left or none.
-/
/-
  A walker by reckoning: the struct types that are compared.
-/
/-
  A walker by reckoning: hooks in whole; width.Solve.
-/
/-
  Package real: Nearest of a good ratio that isn't 0.
-/
/-
  Package real: Nearest of a good ratio that isn't 0: the walk.
-/
/-
  The functions of package ratio, each by its contract. Fourth part: Half.
-/
/-
  The statements of layer 2 that name no reference: what each begins with; RatioScales.
-/
/-
  The statements of layer 2 that name the reference: RatioMakes.
-/
/-
  The statements of layer 1 that name no reference: what their functions compute.
-/
/-
  The statements of layer 1 that name no reference: WideOrder.
-/
/-
  The statements of layer 1 that name the reference. First part: same, WideMuls.
-/
/-
  The functions of package ratio, each by its contract. Last part: Cmp, Times; and the plain law of a product in lowest terms.
-/
/-
  The functions of package ratio, each by its contract: Times.
-/
/-
  The functions of package ratio, each by its contract: Times of a ratio that may not be; Of whatever it is given.
-/
/-
  Layer 3: the ratio that a float is, in plain numbers.
-/
import Derived.Test.YtigjjddblijpbaaGreatDoorZ14
import Derived.Test.YtigjjddblijpbaaGreatDoorZ13
import Derived.Test.YtigjjddblijpbaaGreatDoorZ10
import Derived.Shelf.SlMaps.Clone
import Derived.Test.YtigjjddblijpbaaGreatDoorZ8
import Derived.Deep.DeepCutAuto
import Derived.Test.YtigjjddblijpbaaGreatDoorZ5
import Derived.Test.YtigjjddblijpbaaGreatDoorZ1
import Derived.Test.YtigjjddblijpbaaGreatDoorZ12
import Derived.Test.YtigjjddblijpbaaGreatDoorZ11
namespace Go.Proofs.YtigjjddblijpbaaGreatDoor.Ex
open Go Go.RowKit
set_option linter.unusedSimpArgs false
set_option linter.unusedVariables false

noncomputable section
def nanV : Value := .float .f64 9221120237041090561
def infV : Value := .float .f64 9218868437227405312
/-- The default style, of which width and height are told. -/
def rawL (w h : Value) (c : Int) : List Value := [w, .bool false, h, .bool false, .float .f64 9221120237041090561, .bool false, .float .f64 9221120237041090561, .bool false, .float .f64 9218868437227405312, .bool false, .float .f64 9218868437227405312, .bool false, .float .f64 0, .bool false, .float .f64 0, .bool false, .float .f64 0, .bool false, .float .f64 0, .bool false, .float .f64 0, .bool false, .float .f64 0, .bool false, .float .f64 0, .bool false, .float .f64 0, .bool false, .float .f64 9221120237041090561, .bool false, .float .f64 9221120237041090561, .bool false, .float .f64 9221120237041090561, .bool false, .float .f64 9221120237041090561, .bool false, .float .f64 9221120237041090561, .bool false, .float .f64 0, .float .f64 0, .float .f64 0, .float .f64 0, .float .f64 9221120237041090561, .float .f64 0, .float .f64 4607182418800017408, .float .f64 0, .float .f64 0, .float .f64 9221120237041090561, .int .i64 1, .int .i64 1, .int .i64 1, .int .i64 1, .int .i64 0, .int .i64 1, .int .i64 1, .int .i64 1, .int .i64 1, .int .i64 0, .int .i64 1, .int .i64 1, .bool false, .bool false, .bool false, .bool false, .int .u8 c]
/-- The computed style. -/
def outL (wk wn hk hn : Value) (c : Int) : List Value := [wk, wn, hk, hn, .int .i64 1, .int .i64 0, .int .i64 1, .int .i64 0, .int .i64 2, .int .i64 0, .int .i64 2, .int .i64 0, .int .i64 3, .int .i64 0, .int .i64 3, .int .i64 0, .int .i64 3, .int .i64 0, .int .i64 3, .int .i64 0, .int .i64 3, .int .i64 0, .int .i64 3, .int .i64 0, .int .i64 3, .int .i64 0, .int .i64 3, .int .i64 0, .int .i64 1, .int .i64 0, .int .i64 1, .int .i64 0, .int .i64 1, .int .i64 0, .int .i64 1, .int .i64 0, .int .i64 1, .int .i64 0, .int .i64 0, .int .i64 0, .int .i64 0, .int .i64 0, .int .i64 0, .int .i64 0, .int .i64 4096, .int .i64 0, .int .i64 0, .int .i64 1280, .bool true, .int .i64 1, .int .i64 1, .int .i64 1, .int .i64 1, .int .i64 0, .int .i64 1, .int .i64 1, .int .i64 1, .int .i64 1, .int .i64 0, .int .i64 1, .int .i64 1, .int .u8 c]
def iV (n : Int) : Value := .int .i64 n
def r11 : Value := .agg ⟨[.int .i64 1, .int .i64 1]⟩
def T0 : List (Nat × List Value × Value) := [
  (226, [.int .i64 0, .agg ⟨[.int .i64 1, .int .i64 1]⟩], .int .i64 0),
  (226, [.int .i64 128, .agg ⟨[.int .i64 1, .int .i64 1]⟩], .int .i64 128),
  (45, [], .float .f64 9221120237041090561),
  (46, [.int .i64 1], .float .f64 9218868437227405312),
  (86, [.agg ⟨[.int .i64 1, .int .i64 1]⟩], .bool true),
  (17, [], .agg ⟨rawL nanV nanV 0⟩),
  (18, [.agg ⟨rawL nanV nanV 0⟩], .tuple ⟨[.agg ⟨outL (iV 1) (iV 0) (iV 1) (iV 0) 0⟩, .int .i64 0]⟩),
  (18, [.agg ⟨rawL nanV (.float .f64 4611686018427387904) 9⟩], .tuple ⟨[.agg ⟨outL (iV 1) (iV 0) (iV 3) (iV 128) 9⟩, .int .i64 0]⟩)]
def hk0 : Hk := hkOr (hkPure (orF hotF (lookF T0))) (hkOr (hkClone [104, 105, 106]) hkTry)
def C0 : Cx := ⟨[], [], [], [364], [57]⟩
end
end Go.Proofs.YtigjjddblijpbaaGreatDoor.Ex
namespace Go.Proofs.YtigjjddblijpbaaGreatDoor.Ex
open Go Go.RowKit
set_option linter.unusedSimpArgs false
set_option linter.unusedVariables false

noncomputable section
def sy (j : Nat) : Value := .complex .f32 j 0
def fy (j : Nat) : Value := .complex .f64 j 0
def f64c : Value := .float .f64 4634204016564240384
def f1c : Value := .float .f64 4607182418800017408
def W1 : Value := .agg ⟨[.complex .f32 45 0, .complex .f32 46 0]⟩
def W2 : Value := .agg ⟨[.complex .f32 55 0, .complex .f32 56 0]⟩
def winV (w : Value) : List Value := [.agg ⟨[.int .i64 640, w, .bool false, .int .i64 0, .int .i64 0, .bool false, .bool false, .int .i64 0, .int .i64 0, .int .i64 0, .bool false]⟩]
def rz : Value := .agg ⟨[.int .i64 0, .int .i64 0, .int .i64 0, .int .i64 0]⟩
/-- The calls with names. -/
def T1 : List (Nat × List Value × Value) := [
  (226, [.int .i64 0, W1], iV 0), (226, [.int .i64 0, W2], iV 0),
  (226, [sy 5, r11], sy 5), (226, [sy 5, W1], sy 44), (226, [sy 5, W2], sy 54),
  (178, [sy 5], sy 63), (178, [sy 44], sy 64), (178, [sy 54], sy 65),
  (34, [iV 0, iV 0, sy 63, iV 0], rz), (34, [iV 0, iV 0, sy 64, iV 0], rz), (34, [iV 0, iV 0, sy 65, iV 0], rz),
  (165, winV (sy 5), .agg ⟨[sy 5, iV 0, sy 60]⟩), (165, winV (sy 44), .agg ⟨[sy 44, iV 0, sy 61]⟩), (165, winV (sy 54), .agg ⟨[sy 54, iV 0, sy 62]⟩),
  (18, [.agg ⟨rawL (fy 1) nanV 0⟩], .tuple ⟨[.agg ⟨outL (iV 3) (sy 5) (iV 1) (iV 0) 0⟩, .int .i64 0]⟩),
  (86, [W1], .bool true), (86, [W2], .bool true),
  (30, [f1c, iV 64, iV 1, iV 1024], .tuple ⟨[iV 64, iV 0]⟩),
  (30, [fy 3, iV 64, iV 1, iV 1024], .tuple ⟨[sy 10, iV 0]⟩), (30, [fy 5, iV 64, iV 1, iV 1024], .tuple ⟨[sy 11, iV 0]⟩),
  (30, [fy 7, iV 64, iV 1, iV 1024], .tuple ⟨[sy 12, iV 0]⟩), (30, [fy 9, iV 64, iV 1, iV 1024], .tuple ⟨[sy 13, iV 0]⟩),
  (31, [iV 4096, iV 4096], .tuple ⟨[r11, iV 0]⟩),
  (31, [sy 20, iV 4096], .tuple ⟨[W1, iV 0]⟩), (31, [sy 21, iV 4096], .tuple ⟨[W2, iV 0]⟩)]
def hk1 : Hk := hkOr (hkPure (orF hotF (orF (lookF T0) (lookF T1)))) (hkOr (hkClone [104, 105, 106]) hkTry)
def big : Int := 1099511627776
def bdN : Nat → Nat → List (Int × Int)
  | 0, _ => []
  | n + 1, j => (match j with
    | 5 => (0, 16777215)
    | 43 => (0, 4095)
    | 53 => (0, 4095)
    | 44 => (0, 268435456)
    | 54 => (0, 268435456)
    | 45 => (1, 131072)
    | 46 => (1, 131072)
    | 55 => (1, 131072)
    | 56 => (1, 131072)
    | 60 => (-268435456, 640)
    | 61 => (-268435456, 640)
    | 62 => (-268435456, 640)
    | _ => (0, 1099511627776)) :: bdN n (j + 1)
def facts1 : List (BinOp × Value × Value × Value) := [
  (.rem, .complex .f32 0 3, .int .u32 16777216, .complex .f32 5 3),
  (.add, iV 1, sy 1, sy 10), (.add, iV 1, sy 2, sy 11), (.add, iV 1, sy 3, sy 12), (.add, iV 1, sy 4, sy 13),
  (.quo, fy 0, f64c, fy 1), (.quo, f64c, f64c, f1c), (.quo, fy 2, f64c, fy 3), (.quo, fy 4, f64c, fy 5), (.quo, fy 6, f64c, fy 7), (.quo, fy 8, f64c, fy 9),
  (.mul, sy 10, sy 11, sy 20), (.mul, sy 12, sy 13, sy 21),
  (.mul, sy 5, iV 64, sy 30), (.mul, sy 30, iV 64, sy 31), (.mul, iV 4096, sy 5, sy 31), (.sub, sy 31, sy 31, iV 0),
  (.mul, sy 5, sy 10, sy 40), (.mul, sy 40, sy 11, sy 41), (.mul, iV 4096, sy 44, sy 42), (.sub, sy 41, sy 42, sy 43),
  (.mul, sy 5, sy 12, sy 50), (.mul, sy 50, sy 13, sy 51), (.mul, iV 4096, sy 54, sy 52), (.sub, sy 51, sy 52, sy 53)]
def convs1 : List (Nat × Nat × Value × Value) := [(22, 2, .complex .f32 5 3, sy 5),
  (5, 2, .complex .f32 1 2, sy 1), (5, 2, .complex .f32 2 2, sy 2), (5, 2, .complex .f32 3 2, sy 3), (5, 2, .complex .f32 4 2, sy 4),
  (2, 36, sy 5, fy 0), (2, 36, iV 64, f64c), (2, 36, sy 10, fy 2), (2, 36, sy 11, fy 4), (2, 36, sy 12, fy 6), (2, 36, sy 13, fy 8)]
def C1 : Cx := ⟨bdN 70 0, facts1, convs1, [364], [57]⟩
/-- The arguments of the law. -/
def lawA : List Value := [.agg ⟨[.complex .f32 0 3, .complex .f32 1 2, .complex .f32 2 2, .complex .f32 3 2, .complex .f32 4 2]⟩]
end
end Go.Proofs.YtigjjddblijpbaaGreatDoor.Ex
namespace Go.Proofs.YtigjjddblijpbaaGreatDoor.Ex
open Go Go.RowKit
set_option linter.unusedSimpArgs false
set_option linter.unusedVariables false

/-- The blocks below it stay: the tables of package style lie there. -/
def gZ : Nat := max 2 0 + 1
def VZ (Y : Sy) : Ev where
  Y := Y
  g0 := gZ
  K := fun w => StyW w
  hK := fun w w' h hb => by
    have n1 := hb 2 (by decide)
    have n2 := hb 0 (by decide)
    have lt : ∀ b, b < w.heap.size → w'.heap[b]? = w.heap[b]? → b < w'.heap.size := fun b h1 h2 => by
      rw [Array.getElem?_eq_getElem h1] at h2
      exact (Array.getElem?_eq_some_iff.1 h2).1
    refine ⟨lt _ h.nsz n1, lt _ h.wsz n2, fun j hj => ?_, fun j hj => ?_⟩
    · have := h.num j hj
      unfold World.cell? at this ⊢
      simp only at this ⊢
      rw [n1]; exact this
    · have := h.wrd j hj
      unfold World.cell? at this ⊢
      simp only at this ⊢
      rw [n2]; exact this
/-- What is to be shown of a table of calls. -/
def TblOK (V : Ev) (P : Program) (l : List (Nat × List Value × Value)) : Prop := ∀ f a r, (f, a, r) ∈ l →
  (∀ args' w, (callFunc f args').run P w = .ok (.enter f args') w) ∧
  ∀ E args', concL V.Y E a = some args' → ∃ v', conc V.Y E r = some v' ∧ ∀ w, V.K w → Calls P f ⟨args'⟩ w fun e w' => e = .returned v' ∧ Below w.heap.size w w'
theorem lookF_mem : ∀ {l : List (Nat × List Value × Value)} {g : Nat} {x : List Value} {r : Value}, lookF l g x = some r → (g, x, r) ∈ l
  | [], _, _, _, h => by cases h
  | (f, a, r') :: l, g, x, r, h => by
    unfold lookF at h
    split at h
    · exact List.mem_cons_of_mem _ (lookF_mem h)
    · rename_i hf
      split at h
      · rename_i ha
        cases h
        rw [nb hf, veqAL_eq ha]
        exact List.mem_cons_self ..
      · exact List.mem_cons_of_mem _ (lookF_mem h)
theorem tbl_pure {V : Ev} {P : Program} {l : List (Nat × List Value × Value)} (h : TblOK V P l) : PureOK V P (lookF l) := fun f args v hv => h f args v (lookF_mem hv)
theorem tbl_nil {V : Ev} {P : Program} : TblOK V P [] := fun f a r h => by cases h
theorem tbl_cons {V : Ev} {P : Program} {f : Nat} {a : List Value} {r : Value} {l : List (Nat × List Value × Value)} (hent : ∀ args' w, (callFunc f args').run P w = .ok (.enter f args') w)
    (h : ∀ E args', concL V.Y E a = some args' → ∃ v', conc V.Y E r = some v' ∧ ∀ w, V.K w → Calls P f ⟨args'⟩ w fun e w' => e = .returned v' ∧ Below w.heap.size w w') (hl : TblOK V P l) : TblOK V P ((f, a, r) :: l) := fun f' a' r' hm => by
  cases hm with
  | head => exact ⟨hent, h⟩
  | tail _ hm => exact hl f' a' r' hm
/-- Arguments that are told. -/
theorem told {Y : Sy} {E : Lb} {a b args' : List Value} (h : concL Y E a = some b) (h' : concL Y E a = some args') : args' = b := Option.some.inj (h'.symm.trans h)
theorem argA {Y : Sy} {E : Lb} {l : List Value} (h : litL l = true) : concL Y E [.agg ⟨l⟩] = some [.agg ⟨l⟩] := concL_one (conc_agg (litL_conc h))
/-- The default style with another width, height and colour. -/
def rawS (bw bh : Nat) (c : Int) : Rs where
  L := fun j => if j = 0 then bw else if j = 1 then bh else defR.L j
  P := defR.P
  N := defR.N
  W := defR.W
  B := defR.B
  C := c
theorem rawS_cells (bw bh : Nat) (c : Int) : cellsF 65 (rawF (rawS bw bh c)) = ⟨rawL (.float .f64 bw) (.float .f64 bh) c⟩ := by kernel_rfl
theorem defR_cells : cellsF 65 (rawF defR) = ⟨rawL nanV nanV 0⟩ := by kernel_rfl
theorem rawS_fit {bw bh : Nat} {c : Int} (h1 : bw < 18446744073709551616) (h2 : bh < 18446744073709551616) : (rawS bw bh c).Fit := by
  refine ⟨fun i _ => ?_, fun i _ => ?_, fun i _ => ?_⟩
  · show (if i = 0 then bw else if i = 1 then bh else defR.L i) < _
    split
    · exact h1
    · split
      · exact h2
      · unfold defR stR; dsimp only; repeat' split
        all_goals decide
  · unfold rawS defR stR; dsimp only; repeat' split
    all_goals decide
  · unfold rawS defR stR; dsimp only; repeat' split
    all_goals (unfold IFit; decide)
theorem out_0 : cellsF 62 (outF (rawS 9221120237041090561 9221120237041090561 0)) = ⟨outL (iV 1) (iV 0) (iV 1) (iV 0) 0⟩ := by kernel_rfl
theorem out_9 : cellsF 62 (outF (rawS 9221120237041090561 4611686018427387904 9)) = ⟨outL (iV 1) (iV 0) (iV 3) (iV 128) 9⟩ := by kernel_rfl
theorem dE_0 : dE (rawS 9221120237041090561 9221120237041090561 0) = 0 := by kernel_rfl
theorem dE_9 : dE (rawS 9221120237041090561 4611686018427387904 9) = 0 := by kernel_rfl
theorem scale_told {n p q r : Int} (hn : IFit n) (hp : IFit p) (hq : IFit q) (hN : scaleN n p q = r) (hE : scaleE n p q = 0) (w : World) : Calls Tryz.prog 226 #[.int .i64 n, .agg #[.int .i64 p, .int .i64 q]] w fun e w' => e = .returned (.int .i64 r) ∧ Below w.heap.size w w' :=
  (fix_scale n p q hn hp hq w).mono fun e w' h => ⟨by rw [← hN]; exact h.1 hE, h.2.2⟩
theorem T0_ok (Y : Sy) : TblOK (VZ Y) Tryz.prog T0 := by
  have i1 : IFit 1 := by unfold IFit; omega
  refine tbl_cons (enters _ _ _ Tryz.func226 rfl) (fun E args' h => ?_) (tbl_cons (enters _ _ _ Tryz.func226 rfl) (fun E args' h => ?_) (tbl_cons (enters _ _ _ Tryz.func45 rfl) (fun E args' h => ?_) (tbl_cons (enters _ _ _ Tryz.func46 rfl) (fun E args' h => ?_)
    (tbl_cons (enters _ _ _ Tryz.func86 rfl) (fun E args' h => ?_) (tbl_cons (enters _ _ _ Tryz.func17 rfl) (fun E args' h => ?_) (tbl_cons (enters _ _ _ Tryz.func18 rfl) (fun E args' h => ?_) (tbl_cons (enters _ _ _ Tryz.func18 rfl) (fun E args' h => ?_) tbl_nil)))))))
  · have := told (concL_cons' rfl (argA (l := [.int .i64 1, .int .i64 1]) rfl)) h
    subst this
    exact ⟨_, rfl, fun w _ => scale_told (by unfold IFit; omega) i1 i1 (by kernel_rfl) (by kernel_rfl) w⟩
  · have := told (concL_cons' rfl (argA (l := [.int .i64 1, .int .i64 1]) rfl)) h
    subst this
    exact ⟨_, rfl, fun w _ => scale_told (by unfold IFit; omega) i1 i1 (by kernel_rfl) (by kernel_rfl) w⟩
  · cases h
    exact ⟨_, rfl, fun w _ => (math_nan2 w).mono fun e w' h => ⟨h.1, by rw [h.2]; exact Below.refl _ _⟩⟩
  · have := told (litL_conc (l := [.int .i64 1]) rfl) h
    subst this
    exact ⟨_, rfl, fun w _ => (math_inf w).mono fun e w' h => ⟨h.1, by rw [h.2]; exact Below.refl _ _⟩⟩
  · have := told (argA (l := [.int .i64 1, .int .i64 1]) rfl) h
    subst this
    refine ⟨_, rfl, fun w _ => (rat_good 1 1 i1 i1 w).mono fun e w' h => ⟨?_, h.2⟩⟩
    rw [h.1, show goodB 1 1 = true by kernel_rfl]
  · cases h
    refine ⟨_, conc_agg (litL_conc (by rfl)), fun w _ => ?_⟩
    rw [← defR_cells]
    exact sty_default w
  · have := told (argA (l := rawL nanV nanV 0) rfl) h
    subst this
    refine ⟨_, conc_tuple (concL_cons' (conc_agg (litL_conc (by rfl))) (concL_one rfl)), fun w hK => ?_⟩
    have := sty_compute (rawS 9221120237041090561 9221120237041090561 0) (rawS_fit (by decide) (by decide)) w hK
    rw [rawS_cells, out_0, dE_0] at this
    exact this
  · have := told (argA (l := rawL nanV (.float .f64 4611686018427387904) 9) rfl) h
    subst this
    refine ⟨_, conc_tuple (concL_cons' (conc_agg (litL_conc (by rfl))) (concL_one rfl)), fun w hK => ?_⟩
    have := sty_compute (rawS 9221120237041090561 4611686018427387904 9) (rawS_fit (by decide) (by decide)) w hK
    rw [rawS_cells, out_9, dE_9] at this
    exact this
end Go.Proofs.YtigjjddblijpbaaGreatDoor.Ex
namespace Go.Proofs.YtigjjddblijpbaaGreatDoor.Ex
open Go Go.RowKit Go.Shelf
set_option linter.unusedSimpArgs false
set_option linter.unusedVariables false

def ren104 : Go.Shelf.Ren := ⟨fun | 5 => 104 | 7 => 148 | n => n, fun | 4 => 4 | 20 => 20 | 23 => 84 | 25 => 3 | 3 => 44 | n => n, fun | n => n⟩
theorem lays104 : Go.Proofs.SlLaysW.n5 Tryz.prog ren104 := {
  mixed := by kernel_rfl
  f5 := ⟨Tryz.f104.name, by decide, Tryz.func104.trans (congrArg some (by kernel_rfl))⟩
  f7 := Tryz.func148.trans (congrArg some (by kernel_rfl))
  t4 := Tryz.underlying4
  a4 := Tryz.isAgg4
  z4 := Tryz.sizeOf4
  v4 := Tryz.zeroValue4
  t20 := Tryz.underlying20
  a20 := Tryz.isAgg20
  z20 := Tryz.sizeOf20
  v20 := Tryz.zeroValue20
  t23 := Tryz.underlying84
  a23 := Tryz.isAgg84
  z23 := Tryz.sizeOf84
  v23 := Tryz.zeroValue84 }
def ren105 : Go.Shelf.Ren := ⟨fun | 5 => 105 | 7 => 148 | n => n, fun | 4 => 4 | 20 => 20 | 23 => 88 | 25 => 3 | 3 => 87 | n => n, fun | n => n⟩
theorem lays105 : Go.Proofs.SlLaysW.n5 Tryz.prog ren105 := {
  mixed := by kernel_rfl
  f5 := ⟨Tryz.f105.name, by decide, Tryz.func105.trans (congrArg some (by kernel_rfl))⟩
  f7 := Tryz.func148.trans (congrArg some (by kernel_rfl))
  t4 := Tryz.underlying4
  a4 := Tryz.isAgg4
  z4 := Tryz.sizeOf4
  v4 := Tryz.zeroValue4
  t20 := Tryz.underlying20
  a20 := Tryz.isAgg20
  z20 := Tryz.sizeOf20
  v20 := Tryz.zeroValue20
  t23 := Tryz.underlying88
  a23 := Tryz.isAgg88
  z23 := Tryz.sizeOf88
  v23 := Tryz.zeroValue88 }
def ren106 : Go.Shelf.Ren := ⟨fun | 5 => 106 | 7 => 148 | n => n, fun | 4 => 4 | 20 => 20 | 23 => 89 | 25 => 3 | 3 => 28 | n => n, fun | n => n⟩
theorem lays106 : Go.Proofs.SlLaysW.n5 Tryz.prog ren106 := {
  mixed := by kernel_rfl
  f5 := ⟨Tryz.f106.name, by decide, Tryz.func106.trans (congrArg some (by kernel_rfl))⟩
  f7 := Tryz.func148.trans (congrArg some (by kernel_rfl))
  t4 := Tryz.underlying4
  a4 := Tryz.isAgg4
  z4 := Tryz.sizeOf4
  v4 := Tryz.zeroValue4
  t20 := Tryz.underlying20
  a20 := Tryz.isAgg20
  z20 := Tryz.sizeOf20
  v20 := Tryz.zeroValue20
  t23 := Tryz.underlying89
  a23 := Tryz.isAgg89
  z23 := Tryz.sizeOf89
  v23 := Tryz.zeroValue89 }
theorem clone_g {V : Ev} : HkG V Tryz.prog (hkClone [104, 105, 106]) := by
  refine hkClone_g _ (fun f hf => ?_) (fun f hf b es c w hb => ?_) (fun f hf w => ?_)
  · rcases List.mem_cons.1 hf with rfl | hf
    · exact enters _ _ _ Tryz.func104 rfl
    · rcases List.mem_cons.1 hf with rfl | hf
      · exact enters _ _ _ Tryz.func105 rfl
      · rw [List.mem_singleton] at hf; subst hf
        exact enters _ _ _ Tryz.func106 rfl
  · rcases List.mem_cons.1 hf with rfl | hf
    · exact AnyW.maps_Clone lays104 b es c w hb
    · rcases List.mem_cons.1 hf with rfl | hf
      · exact AnyW.maps_Clone lays105 b es c w hb
      · rw [List.mem_singleton] at hf; subst hf
        exact AnyW.maps_Clone lays106 b es c w hb
  · rcases List.mem_cons.1 hf with rfl | hf
    · exact AnyW.maps_Clone_nil lays104 w
    · rcases List.mem_cons.1 hf with rfl | hf
      · exact AnyW.maps_Clone_nil lays105 w
      · rw [List.mem_singleton] at hf; subst hf
        exact AnyW.maps_Clone_nil lays106 w
end Go.Proofs.YtigjjddblijpbaaGreatDoor.Ex
namespace Go.Proofs.YtigjjddblijpbaaGreatDoor.Ex
open Go Go.RowKit
set_option linter.unusedSimpArgs false
set_option linter.unusedVariables false

noncomputable section
def Cw (lo hi : Int) : Cx := ⟨[(0, 268435456), (lo, hi)], [(.sub, iV 640, sy 0, sy 1)], [], [364], [57]⟩
def ckW : Ck := ⟨165, winV (sy 0), 0, [], .agg ⟨[sy 0, iV 0, sy 1]⟩, [], 0, []⟩
end
theorem ckW_pos : chk ckW (evF hk0 (Cw 0 640) Tryz.prog 2000 60 ckW.f ckW.args (ofL ckW.pre .e) ckW.nx) = true := by kernel_rfl
theorem ckW_neg : chk ckW (evF hk0 (Cw (-268435456) (-1)) Tryz.prog 2000 60 ckW.f ckW.args (ofL ckW.pre .e) ckW.nx) = true := by kernel_rfl
end Go.Proofs.YtigjjddblijpbaaGreatDoor.Ex
namespace Go.Proofs.YtigjjddblijpbaaGreatDoor.Ex
open Go Go.RowKit
set_option linter.unusedSimpArgs false
set_option linter.unusedVariables false

set_option maxRecDepth 100000 in
set_option maxHeartbeats 1600000 in
theorem eq57_run (a b c d a' b' c' d' : Int) (w : World) : (Op.equal 57 (.agg #[.int .i64 a, .int .i64 b, .int .i64 c, .int .i64 d]) (.agg #[.int .i64 (a'), .int .i64 (b'), .int .i64 (c'), .int .i64 (d')])).run Tryz.prog w = .ok (decide (a = a') && (decide (b = b') && (decide (c = c') && decide (d = d')))) w := by
  show (Op.equalIn 10000 57 _ _).run Tryz.prog w = _
  rw [run_equalIn_struct w 9999 _ _ _ (by kernel_rfl) (by kernel_rfl)]
  have e : Tryz.prog.fieldsOf 57 = _ := (by unfold Program.fieldsOf; rw [Tryz.underlying57])
  rw [e]
  have I := fun (x y : Int) (w : World) => run_equalIn_int (P := Tryz.prog) w 9998 3 .i64 .i64 x y Tryz.underlying3
  have P0 : ∀ (a b c d : Int) w, (part 3 #[.int .i64 a, .int .i64 b, .int .i64 c, .int .i64 d] 0).run Tryz.prog w = .ok (.int .i64 a) w := fun a b c d w => run_part_plain w (by kernel_rfl) rfl
  have P1 : ∀ (a b c d : Int) w, (part 3 #[.int .i64 a, .int .i64 b, .int .i64 c, .int .i64 d] 1).run Tryz.prog w = .ok (.int .i64 b) w := fun a b c d w => run_part_plain w (by kernel_rfl) rfl
  have P2 : ∀ (a b c d : Int) w, (part 3 #[.int .i64 a, .int .i64 b, .int .i64 c, .int .i64 d] 2).run Tryz.prog w = .ok (.int .i64 c) w := fun a b c d w => run_part_plain w (by kernel_rfl) rfl
  have P3 : ∀ (a b c d : Int) w, (part 3 #[.int .i64 a, .int .i64 b, .int .i64 c, .int .i64 d] 3).run Tryz.prog w = .ok (.int .i64 d) w := fun a b c d w => run_part_plain w (by kernel_rfl) rfl
  simp only [Op.eqFields, ne_eq, Sem.run_bind, P0, P1, P2, P3, I, Result.andThen_ok, Sem.run_ite, Sem.run_pure]
  by_cases ha : a = a' <;> by_cases hb : b = b' <;> by_cases hc : c = c' <;> by_cases hd : d = d' <;> simp [ha, hb, hc, hd]
theorem eqT57 : EqT Tryz.prog 57 := fun op w x y a b c d a' b' c' d' h => by
  refine ⟨?_, eq57_run a b c d a' b' c' d' w⟩
  have hg : Tryz.prog.eqGuardType (Tryz.prog.depth) 57 = false := by kernel_rfl
  have hp : (program).run Tryz.prog w = .ok Tryz.prog w := rfl
  unfold eqGuard
  rcases h with rfl | rfl <;> simp [hg, hp, Sem.run_bind]
set_option maxRecDepth 100000 in
set_option maxHeartbeats 1600000 in
theorem askT : AskT Tryz.prog 364 := by
  refine ⟨⟨_, Tryz.underlying364⟩, fun e w a b c x y z => ?_, fun w a b c a' b' c' x y z x' y' z' hne => ?_⟩
  · have K3 : ∀ (n : Nat) (v : Value) w, (Instr.checkKey e (n + 1) 3 v).run Tryz.prog w = .ok () w := fun n v w => by
      simp only [Instr.checkKey, Sem.run_bind, run_underlying Tryz.underlying3, Result.andThen_ok, Sem.run_pure]
    have K2 : ∀ (n : Nat) (v : Value) w, (Instr.checkKey e (n + 1) 2 v).run Tryz.prog w = .ok () w := fun n v w => by
      simp only [Instr.checkKey, Sem.run_bind, run_underlying Tryz.underlying2, Result.andThen_ok, Sem.run_pure]
    have K4 : ∀ (n : Nat) (v : Value) w, (Instr.checkKey e (n + 1) 4 v).run Tryz.prog w = .ok () w := fun n v w => by
      simp only [Instr.checkKey, Sem.run_bind, run_underlying Tryz.underlying4, Result.andThen_ok, Sem.run_pure]
    have R0 : ∀ w, (part 2 #[.int .i64 b, .int .i64 c, .bool x] 0).run Tryz.prog w = .ok (.int .i64 b) w := fun w => run_part_plain w (by kernel_rfl) rfl
    have R1 : ∀ w, (part 2 #[.int .i64 b, .int .i64 c, .bool x] 1).run Tryz.prog w = .ok (.int .i64 c) w := fun w => run_part_plain w (by kernel_rfl) rfl
    have R2 : ∀ w, (part 4 #[.int .i64 b, .int .i64 c, .bool x] 2).run Tryz.prog w = .ok (.bool x) w := fun w => run_part_plain w (by kernel_rfl) rfl
    have K248 : ∀ (n : Nat) w, (Instr.checkKey e (n + 2) 248 (.agg #[.int .i64 b, .int .i64 c, .bool x])).run Tryz.prog w = .ok () w := fun n w => by
      rw [Instr.checkKey]
      simp only [Sem.run_bind, run_underlying Tryz.underlying248, Result.andThen_ok]
      rw [← Array.forIn_toList]
      simp [R0, R1, R2, K2, K4, Sem.run_bind]
    have P0 : ∀ w, (part 3 #[.int .i64 a, .int .i64 b, .int .i64 c, .bool x, .bool y, .bool z] 0).run Tryz.prog w = .ok (.int .i64 a) w := fun w => run_part_plain w (by kernel_rfl) rfl
    have P1 : ∀ w, (part 248 #[.int .i64 a, .int .i64 b, .int .i64 c, .bool x, .bool y, .bool z] 1).run Tryz.prog w = .ok (.agg #[.int .i64 b, .int .i64 c, .bool x]) w := fun w => by
      simp only [part, Sem.run_bind, run_isAgg Tryz.underlying248, rowB, Result.andThen_ok, if_true, Tryz.sizeOf248, Sem.run_pure]
      rfl
    have P4 : ∀ w, (part 4 #[.int .i64 a, .int .i64 b, .int .i64 c, .bool x, .bool y, .bool z] 4).run Tryz.prog w = .ok (.bool y) w := fun w => run_part_plain w (by kernel_rfl) rfl
    have P5 : ∀ w, (part 4 #[.int .i64 a, .int .i64 b, .int .i64 c, .bool x, .bool y, .bool z] 5).run Tryz.prog w = .ok (.bool z) w := fun w => run_part_plain w (by kernel_rfl) rfl
    rw [show (10000 : Nat) = 9999 + 1 from rfl, Instr.checkKey]
    simp only [Sem.run_bind, run_underlying Tryz.underlying364, Result.andThen_ok]
    rw [← Array.forIn_toList]
    have K3' := K3 9998
    have K4' := K4 9998
    have K248' := K248 9997
    simp [P0, P1, P4, P5, K3', K4', K248', Sem.run_bind]
  · show (Op.equalIn 10000 364 _ _).run Tryz.prog w = _
    rw [run_equalIn_struct w 9999 _ _ _ (by kernel_rfl) (by kernel_rfl)]
    have e : Tryz.prog.fieldsOf 364 = _ := (by unfold Program.fieldsOf; rw [Tryz.underlying364])
    rw [e]
    have I := run_equalIn_int (P := Tryz.prog) w 9998 3 .i64 .i64 a a' Tryz.underlying3
    have P0 : ∀ (a b c : Int) (x y z : Bool) w, (part 3 #[.int .i64 a, .int .i64 b, .int .i64 c, .bool x, .bool y, .bool z] 0).run Tryz.prog w = .ok (.int .i64 a) w := fun a b c x y z w => run_part_plain w (by kernel_rfl) rfl
    simp only [Op.eqFields, ne_eq, Sem.run_bind, P0, I, Result.andThen_ok, Sem.run_ite, Sem.run_pure]
    simp [hne]
end Go.Proofs.YtigjjddblijpbaaGreatDoor.Ex
namespace Go.Proofs.YtigjjddblijpbaaGreatDoor.Ex
open Go Go.RowKit
set_option linter.unusedSimpArgs false
set_option linter.unusedVariables false

theorem hk0_s : HkS hk0 := hkOr_s (hkPure_s _) (hkOr_s (hkClone_s _) hkTry_s)
theorem hk0_g (Y : Sy) : HkG (VZ Y) Tryz.prog hk0 := hkOr_g (hkPure_g (orF_ok hotF_ok (tbl_pure (T0_ok Y)))) (hkOr_g clone_g hkTry_g)
theorem any_one {k T : Nat} (h : ([k] : List Nat).any (Nat.beq T) = true) : T = k := by
  simp at h; exact h
/-- What is to be shown of a fact. -/
def FactOK (P : Program) (Y : Sy) (op : BinOp) (a b r : Value) : Prop := ∀ E a' b', conc Y E a = some a' → conc Y E b = some b' → ∃ r', conc Y E r = some r' ∧ ∀ (T : Nat) (w : World), (binOp op T a' b').run P w = .ok r' w
def FactsOK (P : Program) (Y : Sy) (l : List (BinOp × Value × Value × Value)) : Prop := ∀ op a b r, (op, a, b, r) ∈ l → FactOK P Y op a b r
theorem facts_nil {P : Program} {Y : Sy} : FactsOK P Y [] := fun _ _ _ _ h => by cases h
theorem facts_cons {P : Program} {Y : Sy} {op : BinOp} {a b r : Value} {l : List (BinOp × Value × Value × Value)} (h : FactOK P Y op a b r) (hl : FactsOK P Y l) : FactsOK P Y ((op, a, b, r) :: l) := fun op' a' b' r' hm => by
  cases hm with
  | head => exact h
  | tail _ hm => exact hl _ _ _ _ hm
section
variable {P : Program} {Y : Sy}
/-- A value that stands for a whole number. -/
def IsI (Y : Sy) (v : Value) (n : Int) : Prop := ∀ E, conc Y E v = some (.int .i64 n)
theorem isI_i (n : Int) : IsI Y (.int .i64 n) n := fun _ => rfl
theorem isI_s (j : Nat) : IsI Y (.complex .f32 j 0) (Y.i j) := fun _ => rfl
theorem fact_bin {op : BinOp} {a b r : Value} {m n : Int} {t : Value} (ha : IsI Y a m) (hb : IsI Y b n) (h : intBin op .i64 m .i64 n = some t) (hr : ∀ E, conc Y E r = some t) : FactOK P Y op a b r := fun E a' b' h1 h2 => by
  rw [ha E] at h1; cases h1
  rw [hb E] at h2; cases h2
  exact ⟨t, hr E, fun T w => (intBin_run (Y := Y) (E := E) h T w).1⟩
theorem fact_add {a b r : Value} {m n : Int} (ha : IsI Y a m) (hb : IsI Y b n) (hr : IsI Y r (m + n)) (h1 : -9223372036854775808 ≤ m + n) (h2 : m + n ≤ 9223372036854775807) : FactOK P Y .add a b r :=
  fact_bin ha hb (t := .int .i64 (m + n)) (by show some (Value.int .i64 (wrapF .i64 (m + n))) = _; rw [wrapF_eq, wrap_i64 h1 h2]) hr
theorem fact_sub {a b r : Value} {m n : Int} (ha : IsI Y a m) (hb : IsI Y b n) (hr : IsI Y r (m - n)) (h1 : -9223372036854775808 ≤ m - n) (h2 : m - n ≤ 9223372036854775807) : FactOK P Y .sub a b r :=
  fact_bin ha hb (t := .int .i64 (m - n)) (by show some (Value.int .i64 (wrapF .i64 (m - n))) = _; rw [wrapF_eq, wrap_i64 h1 h2]) hr
theorem fact_mul {a b r : Value} {m n : Int} (ha : IsI Y a m) (hb : IsI Y b n) (hr : IsI Y r (m * n)) (h1 : -9223372036854775808 ≤ m * n) (h2 : m * n ≤ 9223372036854775807) : FactOK P Y .mul a b r :=
  fact_bin ha hb (t := .int .i64 (m * n)) (by show some (Value.int .i64 (wrapF .i64 (m * n))) = _; rw [wrapF_eq, wrap_i64 h1 h2]) hr
theorem fact_cmp {op : BinOp} {a b : Value} {m n : Int} {t : Bool} (ha : IsI Y a m) (hb : IsI Y b n) (h : intBin op .i64 m .i64 n = some (.bool t)) : FactOK P Y op a b (.bool t) := fact_bin ha hb h (fun _ => rfl)
end
theorem cw_ok {v lo hi : Int} (h0 : 0 ≤ v) (h1 : v ≤ 268435456) (h2 : lo ≤ 640 - v) (h3 : 640 - v ≤ hi) : CxOK (Cw lo hi) Tryz.prog ⟨fun j => if j = 0 then v else 640 - v, fun _ => 0⟩ := by
  refine ⟨fun j b hb => ?_, ?_, fun s d a r h => (by cases h), fun T h => (any_one (k := 364) h) ▸ askT, fun T h => (any_one (k := 57) h) ▸ eqT57⟩
  · match j, hb with
    | 0, hb => cases hb; dsimp only; simp only [if_true]; omega
    | 1, hb => cases hb; dsimp only; simp only [show ¬ (1 = 0) by omega, if_false]; omega
    | j + 2, hb => cases hb
  · refine facts_cons (fact_sub (isI_i 640) (isI_s 0) ?_ ?_ ?_) facts_nil
    · exact isI_s 1
    · simp only [if_true]; omega
    · simp only [if_true]; omega
theorem below_of_step {V : Ev} {E E' : Lb} {H H' : Hp} {nx nx' : Nat} {w w' : World} (h : Step V E H nx w E' H' nx' [] w') : Below w.heap.size w w' := ⟨h.os, h.tape, h.output, h.size, fun b hb => h.fr b hb (fun l p hl => by cases hl)⟩
/-- A memory of which nothing is known. -/
theorem hr_none {V : Ev} {E : Lb} {w : World} (h1 : V.g0 ≤ w.heap.size) (h2 : V.K w) : HR V E .e w := ⟨fun l o h => (by cases h), fun l l' o o' p p' h => (by cases h), fun l o p h => (by cases h), h1, h2⟩
theorem gZ_le {w : World} (h : StyW w) : gZ ≤ w.heap.size := by
  have := h.nsz
  have := h.wsz
  unfold gZ
  omega
/-- width.Solve where the width is told. -/
theorem wi_solve (v : Int) (h0 : 0 ≤ v) (h1 : v ≤ 268435456) (w : World) (hK : StyW w) : Calls Tryz.prog 165 #[.agg #[.int .i64 640, .int .i64 v, .bool false, .int .i64 0, .int .i64 0, .bool false, .bool false, .int .i64 0, .int .i64 0, .int .i64 0, .bool false]] w fun e w' => e = .returned (.agg #[.int .i64 v, .int .i64 0, .int .i64 (640 - v)]) ∧ Below w.heap.size w w' := by
  have key : ∀ lo hi, lo ≤ 640 - v → 640 - v ≤ hi → chk ckW (evF hk0 (Cw lo hi) Tryz.prog 2000 60 ckW.f ckW.args (ofL ckW.pre .e) ckW.nx) = true → Calls Tryz.prog 165 #[.agg #[.int .i64 640, .int .i64 v, .bool false, .int .i64 0, .int .i64 0, .bool false, .bool false, .int .i64 0, .int .i64 0, .int .i64 0, .bool false]] w fun e w' => e = .returned (.agg #[.int .i64 v, .int .i64 0, .int .i64 (640 - v)]) ∧ Below w.heap.size w w' := by
    intro lo hi h2 h3 hk
    obtain ⟨Y, hY⟩ : ∃ Y : Sy, Y = ⟨fun j => if j = 0 then v else 640 - v, fun _ => 0⟩ := ⟨_, rfl⟩
    have hC := cw_ok h0 h1 h2 h3
    rw [← hY] at hC
    have y0 : Y.i 0 = v := by rw [hY]; rfl
    have y1 : Y.i 1 = 640 - v := by rw [hY]; rfl
    have hcl : ClOK (VZ Y) Tryz.prog (evF hk0 (Cw lo hi) Tryz.prog 2000 60) := evF_ok hk0_s (hk0_g Y).ok mixed enters hC 60
    obtain ⟨_, _, _, g4⟩ := chk_good hcl hk
    have ha : concL Y (fun _ => none) ckW.args = some [.agg #[.int .i64 640, .int .i64 v, .bool false, .int .i64 0, .int .i64 0, .bool false, .bool false, .int .i64 0, .int .i64 0, .int .i64 0, .bool false]] := by
      rw [← y0]; rfl
    refine (g4 (fun _ => none) w _ (hr_none (gZ_le hK) hK) (fun _ _ => rfl) ha).mono fun e w' he => ?_
    obtain ⟨v', E', H', rfl, h5, h6, _⟩ := he
    refine ⟨?_, below_of_step h6⟩
    have h7 : conc Y E' ckW.v = some (.agg #[.int .i64 v, .int .i64 0, .int .i64 (640 - v)]) := by
      rw [← y1, ← y0]; rfl
    have h5 : conc Y E' ckW.v = some v' := h5
    rw [h7] at h5
    cases h5
    rfl
  by_cases hs : 0 ≤ 640 - v
  · exact key 0 640 hs (by omega) ckW_pos
  · exact key (-268435456) (-1) (by omega) (by omega) ckW_neg
end Go.Proofs.YtigjjddblijpbaaGreatDoor.Ex
namespace Go.Proofs.YtigjjddblijpbaaGreatDoor
open Go.RowKit
set_option linter.unusedSimpArgs false
set_option linter.unusedVariables false

set_option maxRecDepth 100000 in
theorem ldexp_parts {m k B R E q r : Nat} (x : Int) (hq : B / 4503599627370496 = q) (hr : B % 4503599627370496 = r) (hB : 4836865999795912704 + m = B) (hk : k ≤ 127) (h : (m = 9007199254740992 ∧ E + k = 1087) ∨ (4503599627370496 ≤ m ∧ m < 9007199254740992 ∧ E + k = 1086)) (hx : x = 11 - (k : Int)) (hR : (1085 - k) * 4503599627370496 + m = R) :
    4503599627370496 ≤ B ∧ B < 9218868437227405312 ∧ (q : Int) + x = (E : Int) ∧ 1 ≤ E ∧ E ≤ 1900 ∧ E * 4503599627370496 + r = R := by
  have hdm := Nat.div_add_mod B 4503599627370496
  have hml := Nat.mod_lt B (show 0 < 4503599627370496 by decide)
  rw [hq, hr] at hdm
  rw [hr] at hml
  clear hq hr
  obtain ⟨C, hC⟩ : ∃ C : Nat, C = 4503599627370496 := ⟨_, rfl⟩
  rcases h with ⟨h0, h⟩ | ⟨h1, h2, h⟩
  · have hq : q = 1076 := by omega
    have hr : r = 0 := by omega
    have hE : E = (1085 - k) + 2 := by omega
    obtain ⟨j, hj⟩ : ∃ j, 1085 - k = j := ⟨_, rfl⟩
    rw [hj] at hE hR
    refine ⟨by omega, by omega, by omega, by omega, by omega, ?_⟩
    rw [hE, hr, ← hR, h0, Nat.add_mul]
  · have hq : q = 1075 := by omega
    have hr : r + 4503599627370496 = m := by omega
    have hE : E = (1085 - k) + 1 := by omega
    obtain ⟨j, hj⟩ : ∃ j, 1085 - k = j := ⟨_, rfl⟩
    rw [hj] at hE hR
    refine ⟨by omega, by omega, by omega, by omega, by omega, ?_⟩
    rw [hE, ← hR, ← hr, Nat.add_mul, Nat.one_mul, Nat.add_assoc, Nat.add_comm 4503599627370496 r]

end Go.Proofs.YtigjjddblijpbaaGreatDoor
namespace Go.Proofs.YtigjjddblijpbaaGreatDoor
open Go.RowKit
set_option linter.unusedSimpArgs false
set_option linter.unusedVariables false

theorem div64_n (r d q s : Nat) (h0 : r < d) (h1 : d ≤ 9223372036854775807) (hq : r * 18446744073709551616 / d = q) (hs : r * 18446744073709551616 % d = s) (w : World) :
    Calls Tryz.prog 191 #[.int .u64 (r : Int), .int .u64 0, .int .u64 (d : Int)] w fun e w' => e = .returned (.tuple #[.int .u64 (q : Int), .int .u64 (s : Int)]) ∧ Below w.heap.size w w' := by
  have h := div64_any (r : Int) 0 (d : Int) (by omega) (by omega) (by omega) (by omega) (by omega) w
  have e1 : ((r : Int) * 18446744073709551616 + 0) / (d : Int) = (q : Int) := by rw [← hq, Int.add_zero]; simp
  have e2 : ((r : Int) * 18446744073709551616 + 0) % (d : Int) = (s : Int) := by rw [← hs, Int.add_zero]; simp
  rw [e1, e2] at h
  exact h
theorem quo_u64n (a g A : Nat) (ha : a < 18446744073709551616) (h : a / g = A) : IntKind.u64.wrap ((a : Int) / (g : Int)) = (A : Int) := by
  have h1 : a / g ≤ a := Nat.div_le_self _ _
  rw [h] at h1
  rw [← Int.natCast_ediv, h, IntKind.wrap_u64, Int.emod_eq_of_lt (by omega) (by omega)]
theorem rem_u64n (a g A : Nat) (hg : A < 18446744073709551616) (h : a % g = A) : IntKind.u64.wrap ((a : Int) % (g : Int)) = (A : Int) := by
  rw [← Int.natCast_emod, h, IntKind.wrap_u64, Int.emod_eq_of_lt (by omega) (by omega)]
end Go.Proofs.YtigjjddblijpbaaGreatDoor
namespace Go.Proofs.YtigjjddblijpbaaGreatDoor
open Go.RowKit
set_option linter.unusedSimpArgs false
set_option linter.unusedVariables false

/-- A block of two cells of a wide number. -/
def Qx (w : World) (b : Nat) (x y : Value) : Prop := w.heap[b]? = some (Obj.cells #[x, y] 218 (0, 0))
theorem Qx.cells {w : World} {b : Nat} {x y : Value} (h : Qx w b x y) : w.cell? ⟨b, 0, none⟩ = some x ∧ w.cell? ⟨b, 1, none⟩ = some y ∧ w.frozen? ⟨b, 0, none⟩ = false ∧ w.frozen? ⟨b, 1, none⟩ = false := by
  refine ⟨by rw [cell_of_row w b 0 _ _ _ h]; rfl, by rw [cell_of_row w b 1 _ _ _ h]; rfl, ?_, ?_⟩ <;> simp [World.frozen?, show w.heap[b]? = _ from h]
theorem Qx.lt {w : World} {b : Nat} {x y : Value} (h : Qx w b x y) : b < w.heap.size := (Array.getElem?_eq_some_iff.1 h).1
theorem Qx.new (w : World) (x y : Value) (b : Nat) (hb : b = w.heap.size) : Qx (w.alloc (.cells #[x, y] 218)) b x y := by subst hb; exact heap_alloc_new w _
theorem Qx.alloc {w : World} {b : Nat} {x y : Value} (h : Qx w b x y) (o : Obj) : Qx (w.alloc o) b x y := (Below.heap_alloc w o _ h.lt).trans h
theorem Qx.below {w w' : World} {b : Nat} {x y : Value} (h : Qx w b x y) (hb : Below w.heap.size w w') : Qx w' b x y := (hb.block b h.lt).trans h
theorem Qx.belowX {w w' : World} {b : Nat} {x y : Value} (hb : Below w.heap.size w w') (h : Qx w b x y) : Qx w' b x y := h.below hb
theorem Qx.drew {w : World} {b : Nat} {x y : Value} (h : Qx w b x y) : Qx w.drew b x y := h
theorem Qx.put {w : World} {b : Nat} {x y : Value} (h : Qx w b x y) (u v : Value) : Qx ((w.setCell ⟨b, 0, none⟩ u).setCell ⟨b, 1, none⟩ v) b u v := by
  unfold Qx at *
  have h1 : (w.setCell ⟨b, 0, none⟩ u).heap[b]? = some (Obj.cells #[u, y] 218 (0, 0)) := by
    simp only [World.setCell, Array.getElem?_modify, if_true, h]; rfl
  simp only [World.setCell, Array.getElem?_modify, if_true] at h1 ⊢
  rw [h1]; rfl
theorem Qx.putE {w : World} {b : Nat} (h : ∃ x y, Qx w b x y) (u v : Value) : Qx ((w.setCell ⟨b, 0, none⟩ u).setCell ⟨b, 1, none⟩ v) b u v := by
  obtain ⟨x, y, h⟩ := h; exact h.put u v
theorem Rx.alloc {w : World} {b : Nat} {x y : Value} (h : Rx w b x y) (o : Obj) : Rx (w.alloc o) b x y := (Below.heap_alloc w o _ h.lt).trans h
/-- The ratio's box stands. -/
def RE (w : World) (b : Nat) (x y : Value) (wX : World) : Prop := Rx wX b x y ∧ Below w.heap.size w wX
section
variable {w wX w' : World} {b : Nat} {x y : Value}
theorem RE.tx (h : RE w b x y wX) : Rx wX b x y := h.1
theorem RE.bl (h : RE w b x y wX) : Below w.heap.size w wX := h.2
theorem RE.alloc (h : RE w b x y wX) (o : Obj) : RE w b x y (wX.alloc o) := ⟨h.tx.alloc o, h.bl.alloc h.bl.size o⟩
theorem RE.drew (h : RE w b x y wX) : RE w b x y wX.drew := ⟨h.tx, h.bl.drew⟩
theorem RE.below (hb : Below wX.heap.size wX w') (h : RE w b x y wX) : RE w b x y w' := ⟨h.tx.below hb, h.bl.trans (hb.mono h.bl.size)⟩
theorem RE.set (h : RE w b x y wX) (c o : Nat) (v : Value) (h5 : ¬ b = c) (hb : w.heap.size ≤ c) : RE w b x y (wX.setCell ⟨c, o, none⟩ v) :=
  ⟨(Below.heap_setCell _ _ _ _ h5).trans h.tx, h.bl.setCell (p := ⟨c, o, none⟩) hb v⟩
theorem RE.n1 (h : RE w b x y wX) : Qx (wX.alloc (.cells #[.int .i64 0, .int .u64 0] 218)) wX.heap.size (.int .i64 0) (.int .u64 0) := Qx.new _ _ _ _ rfl
theorem RE.cells (h : RE w b x y wX) : wX.cell? ⟨b, 0, none⟩ = some x ∧ wX.cell? ⟨b, 1, none⟩ = some y := ⟨h.tx.cells.1, h.tx.cells.2.1⟩
theorem RE.nes (h : RE w b x y wX) : ¬ b = wX.heap.size ∧ w.heap.size ≤ wX.heap.size ∧ b < wX.heap.size := by
  have a := h.tx.lt
  have c := h.bl.size
  omega
end

/-- The quotient rounded to the nearest number, a half upwards. -/
def hq (a d : Int) : Int := if d - fr a d ≤ fr a d then fq a d + 1 else fq a d
/-- What Half answers. -/
def HalfAns (x N D : Int) (w : World) (e : Ending) (w' : World) : Prop :=
  (goodB N D = false → e = .returned (.tuple #[.int .i64 0, .int .i64 1])) ∧ (goodB N D = true → IFit (hq (x * N) D) → e = .returned (.tuple #[.int .i64 (hq (x * N) D), .int .i64 0])) ∧
  (goodB N D = true → ¬ IFit (hq (x * N) D) → e = .returned (.tuple #[.int .i64 0, .int .i64 2])) ∧ Below w.heap.size w w'
def CutH (w : World) (F R : Int) (N D : Value) (s6 s7 s8 : Value) (wx : World) : Prop :=
  ∃ b qh ql, s6 = .pointer (some ⟨b, 0, none⟩) ∧ s7 = .int .i64 R ∧ s8 = .bool true ∧ Wd qh ql F ∧ Qx wx b (.int .i64 qh) (.int .u64 ql) ∧ RE w w.heap.size N D wx ∧ w.heap.size ≤ b

end Go.Proofs.YtigjjddblijpbaaGreatDoor
namespace Go.Proofs.YtigjjddblijpbaaGreatDoor
open Go.RowKit
set_option linter.unusedSimpArgs false
set_option linter.unusedVariables false

set_option maxRecDepth 100000 in
set_option maxHeartbeats 1600000 in
theorem rat_of_zero (n : Int) (w : World) : Calls Tryz.prog 31 #[.int .i64 n, .int .i64 0] w fun e w' => e = .returned (.tuple #[.agg #[.int .i64 0, .int .i64 0], .int .i64 3]) ∧ Below w.heap.size w w' := by
  have t1 := Rx.new w (.int .i64 0) (.int .i64 0) _ rfl
  have hB1 : Below w.heap.size w (w.alloc (.cells #[.int .i64 0, .int .i64 0] 81)) := (by repeat' (first | (with_reducible exact Below.refl _ _) | (with_reducible assumption) | (with_reducible refine below_alloc ?_ _ ?_) | (with_reducible refine below_set _ ?_ ?_) | (with_reducible refine Below.drew ?_) | (with_reducible refine below_dN ?_ _) | (apply below_thenA; assumption) | omega | (simp; done) | (simp; omega) | (simp [*]; done)))
  obtain ⟨p1, p2, p3, p4⟩ := t1.cells
  go_enter Tryz.func31, Tryz.ntmps31
  go_wp2_with fail
  (go_light; simp [bodyPost, results, Tryz.results31, go_sem, *])
theorem rat_down_ok (x N D F : Int) (hx : IFit x) (hN : IFit N) (hD : IFit D) (hg : goodB N D = true) (hF : fq (x * N) D = F) (hf : IFit F) (w : World) :
    Calls Tryz.prog 250 #[.agg #[.int .i64 N, .int .i64 D], .int .i64 x] w fun e w' => e = .returned (.tuple #[.int .i64 F, .int .i64 0]) ∧ Below w.heap.size w w' := by
  subst hF
  exact (rat_down x N D hx hN hD w).mono fun _ _ h => ⟨h.2.1 hg hf, h.2.2.2⟩
theorem rat_good_ok (N D : Int) (hN : IFit N) (hD : IFit D) (hg : goodB N D = true) (w : World) :
    Calls Tryz.prog 86 #[.agg #[.int .i64 N, .int .i64 D]] w fun e w' => e = .returned (.bool true) ∧ Below w.heap.size w w' := by
  have := rat_good N D hN hD w; rwa [hg] at this
theorem rat_of_small (p q : Int) (p1 : 1 ≤ p) (p2 : p ≤ 4096) (q1 : 1 ≤ q) (q2 : q ≤ 4096) :
    ∃ N D : Int, 1 ≤ N ∧ N ≤ 4096 ∧ 1 ≤ D ∧ D ≤ 4096 ∧ goodB N D = true ∧
      ∀ W, Calls Tryz.prog 31 #[.int .i64 p, .int .i64 q] W fun e w' => e = .returned (.tuple #[.agg #[.int .i64 N, .int .i64 D], .int .i64 0]) ∧ Below W.heap.size W w' := by
  have hg : 0 < Nat.gcd p.natAbs q.natAbs := Nat.gcd_pos_of_pos_right _ (by omega)
  have hco := Nat.coprime_div_gcd_div_gcd hg
  have h1 : 0 < p.natAbs / Nat.gcd p.natAbs q.natAbs := Nat.div_pos (Nat.le_of_dvd (by omega) (Nat.gcd_dvd_left _ _)) hg
  have h2 : 0 < q.natAbs / Nat.gcd p.natAbs q.natAbs := Nat.div_pos (Nat.le_of_dvd (by omega) (Nat.gcd_dvd_right _ _)) hg
  have h3 : p.natAbs / Nat.gcd p.natAbs q.natAbs ≤ p.natAbs := Nat.div_le_self _ _
  have h4 : q.natAbs / Nat.gcd p.natAbs q.natAbs ≤ q.natAbs := Nat.div_le_self _ _
  have OF := fun W => rat_of_pos p q (by unfold IFit; omega) (by unfold IFit; omega) (by omega) (.inr (.inr ⟨by omega, by omega⟩)) _ _ rfl rfl W
  obtain ⟨A, eA⟩ : ∃ A, p.natAbs / Nat.gcd p.natAbs q.natAbs = A := ⟨_, rfl⟩
  obtain ⟨B, eB⟩ : ∃ B, q.natAbs / Nat.gcd p.natAbs q.natAbs = B := ⟨_, rfl⟩
  rw [eA, eB] at hco
  rw [eA] at h1 h3
  rw [eB] at h2 h4
  refine ⟨(A : Int), (B : Int), by omega, by omega, by omega, by omega, ?_, fun W => ?_⟩
  · unfold goodB
    rw [Int.natAbs_natCast, Int.natAbs_natCast, show Nat.gcd A B = 1 from hco]
    simp; omega
  · have h := OF W
    rw [eA, eB] at h
    refine h.mono fun e w' x => ⟨?_, x.2.2⟩
    have := x.1 ⟨by unfold limR; simp; omega, by omega⟩
    simpa using this
theorem scales_plain (x N D : Int) (x1 : -35184372088832 ≤ x) (x2 : x ≤ 35184372088831) (N1 : 1 ≤ N) (N2 : N ≤ 4096) (D1 : 1 ≤ D) (D2 : D ≤ 4096) (hg : goodB N D = true) :
    (0 ≤ x * N - fq (x * N) D * D ∧ x * N - fq (x * N) D * D < D) ∧ (-D ≤ 2 * (x * N - hq (x * N) D * D) ∧ 2 * (x * N - hq (x * N) D * D) < D) ∧
    (-144115188075855872 ≤ x * N ∧ x * N ≤ 144115188075855872) ∧ (-144115188075855872 ≤ fq (x * N) D ∧ fq (x * N) D ≤ 144115188075855872) ∧
    (hq (x * N) D = fq (x * N) D ∨ hq (x * N) D = fq (x * N) D + 1) ∧ (N = D → fq (x * N) D = x ∧ hq (x * N) D = x) := by
  have b1 : -144115188075855872 ≤ x * N ∧ x * N ≤ 144115188075855872 := by
    have h1 : (x + 35184372088832) * N ≥ 0 := Int.mul_nonneg (by omega) (by omega)
    have h2 : (35184372088832 - x) * N ≥ 0 := Int.mul_nonneg (by omega) (by omega)
    rw [Int.add_mul] at h1
    rw [Int.sub_mul] at h2
    omega
  have hfr : fr (x * N) D = x * N - fq (x * N) D * D := rfl
  have hr : 0 ≤ fr (x * N) D ∧ fr (x * N) D < D := by
    rw [fr_pos (by omega)]
    exact ⟨Int.emod_nonneg _ (by omega), Int.emod_lt_of_pos _ (by omega)⟩
  have hab := fq_abs (a := x * N) (d := D) (by omega)
  have hq1 : hq (x * N) D = fq (x * N) D ∧ ¬ D - fr (x * N) D ≤ fr (x * N) D ∨ hq (x * N) D = fq (x * N) D + 1 ∧ D - fr (x * N) D ≤ fr (x * N) D := by
    unfold hq
    by_cases h : D - fr (x * N) D ≤ fr (x * N) D
    · rw [if_pos h]; exact .inr ⟨rfl, h⟩
    · rw [if_neg h]; exact .inl ⟨rfl, h⟩
  refine ⟨by omega, ?_, b1, by omega, by omega, fun e => ?_⟩
  · rcases hq1 with ⟨h, h'⟩ | ⟨h, h'⟩
    · rw [h]; omega
    · rw [h, Int.add_mul]; omega
  · subst e
    have h1 : N = 1 := by
      unfold goodB at hg
      simp at hg
      omega
    subst h1
    have e1 : fq (x * 1) 1 = x := by unfold fq; rw [if_neg (by decide)]; omega
    refine ⟨e1, ?_⟩
    unfold hq fr
    rw [e1, if_neg (by omega)]
theorem fq_mono {a b D : Int} (hD : 1 ≤ D) (h : a ≤ b) : fq a D ≤ fq b D := by
  unfold fq
  rw [if_neg (by omega), if_neg (by omega)]
  exact Int.ediv_le_ediv (by omega) h

end Go.Proofs.YtigjjddblijpbaaGreatDoor
namespace Go.Proofs.YtigjjddblijpbaaGreatDoor
open Go.RowKit
set_option linter.unusedSimpArgs false
set_option linter.unusedVariables false

/-- The two numbers of a ratio in lowest terms. -/
def numR (n d : Int) : Int := if decide (n < 0) = decide (d < 0) then ((n.natAbs / Nat.gcd n.natAbs d.natAbs : Nat) : Int) else -((n.natAbs / Nat.gcd n.natAbs d.natAbs : Nat) : Int)
def denR (n d : Int) : Int := ((d.natAbs / Nat.gcd n.natAbs d.natAbs : Nat) : Int)
def fitR (n d : Int) : Prop := IFit (numR n d) ∧ IFit (denR n d)
theorem rat_of_any (n d : Int) (hn : IFit n) (hd : IFit d) (h0 : d ≠ 0) (w : World) :
    Calls Tryz.prog 31 #[.int .i64 n, .int .i64 d] w fun e w' => (fitR n d → e = .returned (.tuple #[.agg #[.int .i64 (numR n d), .int .i64 (denR n d)], .int .i64 0])) ∧ (¬ fitR n d → e = .returned (.tuple #[.agg #[.int .i64 0, .int .i64 0], .int .i64 2])) ∧ Below w.heap.size w w' := by
  have hA : n = 0 → n.natAbs / Nat.gcd n.natAbs d.natAbs = 0 := fun h => by subst h; simp
  have hs : (n ≠ 0 ∧ ((n < 0 ∧ 0 < d) ∨ (0 < n ∧ d < 0))) ∨ (n = 0 ∨ (n < 0 ∧ d < 0) ∨ (0 < n ∧ 0 < d)) := by omega
  have N1 := fun hz hs => rat_of_neg n d hn hd h0 hz hs _ _ rfl rfl w
  have N2 := fun hs => rat_of_pos n d hn hd h0 hs _ _ rfl rfl w
  unfold fitR numR denR
  obtain ⟨A, eA⟩ : ∃ A, n.natAbs / Nat.gcd n.natAbs d.natAbs = A := ⟨_, rfl⟩
  obtain ⟨B, eB⟩ : ∃ B, d.natAbs / Nat.gcd n.natAbs d.natAbs = B := ⟨_, rfl⟩
  rw [eA] at hA
  rw [eA, eB] at N1 N2
  rw [eA, eB]
  clear eA eB
  rcases hs with ⟨hz, hs⟩ | hs
  · have e1 : ¬ (decide (n < 0) = decide (d < 0)) := by
      rcases hs with ⟨h, h'⟩ | ⟨h, h'⟩
      · rw [show decide (n < 0) = true by simp [h], show decide (d < 0) = false by simp; omega]; decide
      · rw [show decide (n < 0) = false by simp; omega, show decide (d < 0) = true by simp [h']]; decide
    rw [if_neg e1]
    refine (N1 hz hs).mono fun e w' h => ⟨fun hf => ?_, fun hf => ?_, h.2.2⟩
    · exact h.1 ⟨by unfold limR; simp; unfold IFit at hf; omega, by unfold IFit at hf; omega⟩
    · refine h.2.1 fun hc => hf ⟨?_, ?_⟩
      · have := hc.1; unfold limR at this; simp at this; unfold IFit; omega
      · have := hc.2; unfold IFit; omega
  · have e1 : (if decide (n < 0) = decide (d < 0) then (A : Int) else -(A : Int)) = (A : Int) := by
      rcases hs with h | ⟨h, h'⟩ | ⟨h, h'⟩
      · rw [hA h]; simp
      · rw [show decide (n < 0) = true by simp [h], show decide (d < 0) = true by simp [h']]; rfl
      · rw [show decide (n < 0) = false by simp; omega, show decide (d < 0) = false by simp; omega]; rfl
    rw [e1]
    refine (N2 hs).mono fun e w' h => ⟨fun hf => ?_, fun hf => ?_, h.2.2⟩
    · exact h.1 ⟨by unfold limR; simp; unfold IFit at hf; omega, by unfold IFit at hf; omega⟩
    · refine h.2.1 fun hc => hf ⟨?_, ?_⟩
      · have := hc.1; unfold limR at this; simp at this; unfold IFit; omega
      · have := hc.2; unfold IFit; omega
theorem good_low (n d : Int) (hd : d ≠ 0) : goodB (numR n d) (denR n d) = true := by
  have hg : 0 < Nat.gcd n.natAbs d.natAbs := Nat.gcd_pos_of_pos_right _ (by omega)
  have hco := Nat.coprime_div_gcd_div_gcd hg
  have h2 : 0 < d.natAbs / Nat.gcd n.natAbs d.natAbs := Nat.div_pos (Nat.le_of_dvd (by omega) (Nat.gcd_dvd_right _ _)) hg
  unfold numR denR
  obtain ⟨A, eA⟩ : ∃ A, n.natAbs / Nat.gcd n.natAbs d.natAbs = A := ⟨_, rfl⟩
  obtain ⟨B, eB⟩ : ∃ B, d.natAbs / Nat.gcd n.natAbs d.natAbs = B := ⟨_, rfl⟩
  rw [eA, eB] at hco
  rw [eB] at h2
  rw [eA, eB]
  have e : (if decide (n < 0) = decide (d < 0) then (A : Int) else -(A : Int)).natAbs = A := by split <;> omega
  unfold goodB
  rw [e, Int.natAbs_natCast, show Nat.gcd A B = 1 from hco]
  simp; omega
theorem rat_of_yes (n d N D : Int) (hn : IFit n) (hd : IFit d) (h0 : d ≠ 0) (hf : fitR n d) (eN : numR n d = N) (eD : denR n d = D) (w : World) :
    Calls Tryz.prog 31 #[.int .i64 n, .int .i64 d] w fun e w' => e = .returned (.tuple #[.agg #[.int .i64 N, .int .i64 D], .int .i64 0]) ∧ Below w.heap.size w w' := by
  subst eN eD
  exact (rat_of_any n d hn hd h0 w).mono fun e w' h => ⟨h.1 hf, h.2.2⟩
theorem rat_of_no (n d : Int) (hn : IFit n) (hd : IFit d) (h0 : d ≠ 0) (hf : ¬ fitR n d) (w : World) :
    Calls Tryz.prog 31 #[.int .i64 n, .int .i64 d] w fun e w' => e = .returned (.tuple #[.agg #[.int .i64 0, .int .i64 0], .int .i64 2]) ∧ Below w.heap.size w w' :=
  (rat_of_any n d hn hd h0 w).mono fun e w' h => ⟨h.2.1 hf, h.2.2⟩
theorem numR_le (n d : Int) : (numR n d).natAbs ≤ n.natAbs := by
  have h3 : n.natAbs / Nat.gcd n.natAbs d.natAbs ≤ n.natAbs := Nat.div_le_self _ _
  unfold numR
  obtain ⟨A, eA⟩ : ∃ A, n.natAbs / Nat.gcd n.natAbs d.natAbs = A := ⟨_, rfl⟩
  rw [eA] at h3 ⊢
  split <;> omega
theorem denR_le (n d : Int) : (denR n d).natAbs ≤ d.natAbs := by
  have h3 : d.natAbs / Nat.gcd n.natAbs d.natAbs ≤ d.natAbs := Nat.div_le_self _ _
  unfold denR
  rw [Int.natAbs_natCast]
  exact h3
end Go.Proofs.YtigjjddblijpbaaGreatDoor
namespace Go.Proofs.YtigjjddblijpbaaGreatDoor
open Go.RowKit
set_option linter.unusedSimpArgs false
set_option linter.unusedVariables false

theorem bzE2 {n : Nat} {W w1 : World} {G : Prop} (hb : Below W.heap.size W w1) (h : n + 2 ≤ W.heap.size) (k : (n + 1 < w1.heap.size ∧ n + 1 ≤ w1.heap.size ∧ n < w1.heap.size) → G) : G := by
  have := hb.size
  exact k (by omega)
theorem fr_fit {a c : Int} (hc : IFit c) (h0 : c ≠ 0) : IFit (fr a c) := by
  unfold IFit at *
  rcases Int.lt_or_le c 0 with h | h
  · rw [fr_neg h]
    have := Int.emod_nonneg (-a) (show -c ≠ 0 by omega)
    have := Int.emod_lt_of_pos (-a) (show 0 < -c by omega)
    omega
  · rw [fr_pos (by omega)]
    have := Int.emod_nonneg a h0
    have := Int.emod_lt_of_pos a (show 0 < c by omega)
    omega

end Go.Proofs.YtigjjddblijpbaaGreatDoor
namespace Go.Proofs.YtigjjddblijpbaaGreatDoor
open Go.RowKit
set_option linter.unusedSimpArgs false
set_option linter.unusedVariables false

/-- A box of two cells. -/
def Bx (w : World) (b : Nat) (T : TypeId) (x y : Value) : Prop := w.heap[b]? = some (Obj.cells #[x, y] T (0, 0))
theorem Bx.cells {w : World} {b : Nat} {T : TypeId} {x y : Value} (h : Bx w b T x y) : w.cell? ⟨b, 0, none⟩ = some x ∧ w.cell? ⟨b, 1, none⟩ = some y ∧ w.frozen? ⟨b, 0, none⟩ = false ∧ w.frozen? ⟨b, 1, none⟩ = false := by
  refine ⟨by rw [cell_of_row w b 0 _ _ _ h]; rfl, by rw [cell_of_row w b 1 _ _ _ h]; rfl, ?_, ?_⟩ <;> simp [World.frozen?, show w.heap[b]? = _ from h]
theorem Bx.lt {w : World} {b : Nat} {T : TypeId} {x y : Value} (h : Bx w b T x y) : b < w.heap.size := (Array.getElem?_eq_some_iff.1 h).1
theorem Bx.alloc {w : World} {b : Nat} {T : TypeId} {x y : Value} (h : Bx w b T x y) (o : Obj) : Bx (w.alloc o) b T x y := (Below.heap_alloc w o _ h.lt).trans h
theorem Bx.new (w : World) (T : TypeId) (x y : Value) (b : Nat) (hb : b = w.heap.size) : Bx (w.alloc (.cells #[x, y] T)) b T x y := by
  subst hb; exact heap_alloc_new w _
theorem Bx.below {w w' : World} {b : Nat} {T : TypeId} {x y : Value} (h : Bx w b T x y) (hb : Below w.heap.size w w') : Bx w' b T x y := (hb.block b h.lt).trans h
theorem Bx.drew {w : World} {b : Nat} {T : TypeId} {x y : Value} (h : Bx w b T x y) : Bx w.drew b T x y := h

/-- What Add and Neg answer: the number, if it fits. -/
def AnsW (n : Int) (w : World) (e : Ending) (w' : World) : Prop := ∃ vh vl ok, e = .returned (.tuple #[.agg #[.int .i64 vh, .int .u64 vl], .bool ok]) ∧ (ok = true → Wd vh vl n) ∧ Below w.heap.size w w'
theorem AnsW.out {n : Int} {w : World} {e : Ending} {w' : World} (h : AnsW n w e w') : ∃ vh vl ok, e = .returned (.tuple #[.agg #[.int .i64 vh, .int .u64 vl], .bool ok]) ∧ (ok = true → Wd vh vl n) ∧ Below w.heap.size w w' := h
theorem WAns.any {n : Int} {w : World} {e : Ending} {w' : World} (h : WAns n w.heap.size w e w') : AnsW n w e w' := by
  by_cases hf : WFit n
  · exact ⟨_, _, true, h.1 hf, fun _ => Wd.of hf, h.2.2⟩
  · exact ⟨_, _, false, h.2.1 hf, fun e => by simp at e, h.2.2⟩
theorem wide_add_any (a b h1 l1 h2 l2 : Int) (ha : Wd h1 l1 a) (hb : Wd h2 l2 b) (w : World) :
    Calls Tryz.prog 113 #[.agg #[.int .i64 h1, .int .u64 l1], .agg #[.int .i64 h2, .int .u64 l2]] w (AnsW (a + b) w) := (wide_add a b h1 l1 h2 l2 ha hb w).mono fun _ _ h => h.any
theorem Wd.eq1 {h1 l1 h2 l2 x y : Int} (hx : Wd h1 l1 x) (hy : Wd h2 l2 y) (h : h1 = h2) (l : l1 = l2) : x = y := by unfold Wd at *; subst h; subst l; omega
theorem Wd.eq2 {h1 l1 h2 l2 x y : Int} (hx : Wd h1 l1 x) (hy : Wd h2 l2 y) (h : x = y) : h1 = h2 ∧ l1 = l2 := by unfold Wd at *; omega
theorem cmp3_flip (a b : Int) : cmp3 b a = -cmp3 a b := by
  unfold cmp3
  by_cases h : a < b
  · rw [if_pos h, if_neg (by omega), if_pos h]; rfl
  · by_cases h2 : b < a
    · rw [if_pos h2, if_neg h, if_pos h2]
    · rw [if_neg h2, if_neg h, if_neg h, if_neg h2]; rfl
theorem cmp3_shift (a b c : Int) : cmp3 (a + c) (b + c) = cmp3 a b := by
  unfold cmp3
  by_cases h : a < b
  · rw [if_pos h, if_pos (by omega)]
  · by_cases h2 : b < a
    · rw [if_neg h, if_pos h2, if_neg (by omega), if_pos (by omega)]
    · rw [if_neg h, if_neg h2, if_neg (by omega), if_neg (by omega)]
theorem cmp3_negs (a b : Int) : cmp3 (-a) (-b) = -cmp3 a b := by
  rw [← cmp3_flip]
  unfold cmp3
  by_cases h : a < b
  · rw [if_neg (by omega), if_pos (by omega), if_neg (by omega), if_pos h]
  · by_cases h2 : b < a
    · rw [if_pos (by omega), if_pos h2]
    · rw [if_neg (by omega), if_neg (by omega), if_neg h2, if_neg h]
theorem cmp3_cases (a b : Int) : (cmp3 a b = -1 ∧ a < b) ∨ (cmp3 a b = 0 ∧ a = b) ∨ (cmp3 a b = 1 ∧ b < a) := by
  unfold cmp3
  by_cases h : a < b
  · rw [if_pos h]; exact .inl ⟨rfl, h⟩
  · by_cases h2 : b < a
    · rw [if_neg h, if_pos h2]; exact .inr (.inr ⟨rfl, h2⟩)
    · rw [if_neg h, if_neg h2]; exact .inr (.inl ⟨rfl, by omega⟩)
def Boxes3 (w wc : World) (b7 b8 b9 : Nat) (h1 l1 h2 l2 h3 l3 : Int) : Prop :=
  Bx wc b7 218 (.int .i64 h1) (.int .u64 l1) ∧ Bx wc b8 218 (.int .i64 h2) (.int .u64 l2) ∧ Bx wc b9 218 (.int .i64 h3) (.int .u64 l3) ∧ Below w.heap.size w wc
theorem Boxes3.step {w wc wd : World} {b7 b8 b9 : Nat} {h1 l1 h2 l2 h3 l3 : Int} (h : Boxes3 w wc b7 b8 b9 h1 l1 h2 l2 h3 l3) (hb : Below wc.heap.size wc wd) : Boxes3 w wd b7 b8 b9 h1 l1 h2 l2 h3 l3 :=
  ⟨h.1.below hb, h.2.1.below hb, h.2.2.1.below hb, h.2.2.2.trans (hb.mono h.2.2.2.size)⟩
theorem Boxes3.alloc {w wc : World} {b7 b8 b9 : Nat} {h1 l1 h2 l2 h3 l3 : Int} (h : Boxes3 w wc b7 b8 b9 h1 l1 h2 l2 h3 l3) (o : Obj) : Boxes3 w (wc.alloc o) b7 b8 b9 h1 l1 h2 l2 h3 l3 :=
  ⟨h.1.alloc o, h.2.1.alloc o, h.2.2.1.alloc o, h.2.2.2.alloc h.2.2.2.size o⟩
theorem Boxes3.c1 {w wc : World} {b7 b8 b9 : Nat} {h1 l1 h2 l2 h3 l3 : Int} (h : Boxes3 w wc b7 b8 b9 h1 l1 h2 l2 h3 l3) : Bx wc b7 218 (.int .i64 h1) (.int .u64 l1) := h.1
theorem Boxes3.c2 {w wc : World} {b7 b8 b9 : Nat} {h1 l1 h2 l2 h3 l3 : Int} (h : Boxes3 w wc b7 b8 b9 h1 l1 h2 l2 h3 l3) : Bx wc b8 218 (.int .i64 h2) (.int .u64 l2) := h.2.1
theorem Boxes3.c3 {w wc : World} {b7 b8 b9 : Nat} {h1 l1 h2 l2 h3 l3 : Int} (h : Boxes3 w wc b7 b8 b9 h1 l1 h2 l2 h3 l3) : Bx wc b9 218 (.int .i64 h3) (.int .u64 l3) := h.2.2.1
def Cut3 (w : World) (h1 l1 h2 l2 h3 l3 : Int) (s7 s8 s9 : Value) (wc : World) : Prop :=
  ∃ b7 b8 b9, s7 = .pointer (some ⟨b7, 0, none⟩) ∧ s8 = .pointer (some ⟨b8, 0, none⟩) ∧ s9 = .pointer (some ⟨b9, 0, none⟩) ∧ Boxes3 w wc b7 b8 b9 h1 l1 h2 l2 h3 l3

end Go.Proofs.YtigjjddblijpbaaGreatDoor
namespace Go.Proofs.YtigjjddblijpbaaGreatDoor
open Go.RowKit
set_option linter.unusedSimpArgs false
set_option linter.unusedVariables false

theorem Bx.ty {w : World} {b : Nat} {T : TypeId} {x y : Value} (h : Bx w b T x y) : TyAt w b T := ⟨_, _, h⟩
theorem cmpI_self (n : Int) : cmpI n n = 0 := by unfold cmpI; rw [if_neg (by omega), if_neg (by omega)]
theorem Wd.sz {h l n : Int} (hW : Wd h l n) : BM.Sz n 9 := by
  have : (65536 : Nat) ^ 9 = 22300745198530623141535718272648361505980416 := by decide
  unfold Wd at hW; unfold BM.Sz; omega
theorem wide_mul_at (a b p ph pl : Int) (ha : IFit a) (hb : IFit b) (hp : a * b = p) (e1 : p / 18446744073709551616 = ph) (e2 : p % 18446744073709551616 = pl) (w : World) :
    Calls Tryz.prog 110 #[.int .i64 a, .int .i64 b] w fun e w' => e = .returned (.agg #[.int .i64 ph, .int .u64 pl]) ∧ Below w.heap.size w w' := by
  subst hp; subst e1; subst e2; exact wide_mul a b ha.1 ha.2 hb.1 hb.2 w
theorem wide_of_at (a h l : Int) (ha : IFit a) (e1 : a / 18446744073709551616 = h) (e2 : a % 18446744073709551616 = l) (w : World) :
    Calls Tryz.prog 114 #[.int .i64 a] w fun e w' => e = .returned (.agg #[.int .i64 h, .int .u64 l]) ∧ Below w.heap.size w w' := by
  subst e1; subst e2; exact wide_of a ha.1 ha.2 w
theorem intB_iff (p : Int) : intB p = true ↔ IFit p := by unfold intB IFit; simp; omega
theorem wide_int_any (p h l : Int) (hW : Wd h l p) (w : World) :
    Calls Tryz.prog 111 #[.agg #[.int .i64 h, .int .u64 l]] w fun e w' => e = .returned (.tuple #[.int .i64 (intV p), .bool (intB p)]) ∧ Below w.heap.size w w' := by
  by_cases h : IFit p
  · have e : intB p = true := (intB_iff p).2 h
    unfold intV
    rw [e]; exact wide_int_fit p _ _ hW h w
  · have e : intB p = false := by rw [Bool.eq_false_iff]; exact fun x => h ((intB_iff p).1 x)
    unfold intV
    rw [e]; exact wide_int_no p _ _ hW h w

end Go.Proofs.YtigjjddblijpbaaGreatDoor
namespace Go.Proofs.YtigjjddblijpbaaGreatDoor
open Go.RowKit
set_option linter.unusedSimpArgs false
set_option linter.unusedVariables false

theorem gcd_pairs (n1 n2 d1 d2 : Nat) (h1 : Nat.gcd n1 d1 = 1) (h2 : Nat.gcd n2 d2 = 1) (p1 : 0 < d1) (p2 : 0 < d2) :
    Nat.gcd (n1 * n2) (d1 * d2) = Nat.gcd n1 d2 * Nat.gcd n2 d1 ∧
    n1 * n2 / (Nat.gcd n1 d2 * Nat.gcd n2 d1) = (n1 / Nat.gcd n1 d2) * (n2 / Nat.gcd n2 d1) ∧
    d1 * d2 / (Nat.gcd n1 d2 * Nat.gcd n2 d1) = (d2 / Nat.gcd n1 d2) * (d1 / Nat.gcd n2 d1) := by
  have q1 : 0 < Nat.gcd n1 d2 := Nat.gcd_pos_of_pos_right _ p2
  have q2 : 0 < Nat.gcd n2 d1 := Nat.gcd_pos_of_pos_right _ p1
  have c1 := Nat.coprime_div_gcd_div_gcd q1
  have c2 := Nat.coprime_div_gcd_div_gcd q2
  have e1 : n1 = Nat.gcd n1 d2 * (n1 / Nat.gcd n1 d2) := (Nat.mul_div_cancel' (Nat.gcd_dvd_left _ _)).symm
  have e2 : d2 = Nat.gcd n1 d2 * (d2 / Nat.gcd n1 d2) := (Nat.mul_div_cancel' (Nat.gcd_dvd_right _ _)).symm
  have e3 : n2 = Nat.gcd n2 d1 * (n2 / Nat.gcd n2 d1) := (Nat.mul_div_cancel' (Nat.gcd_dvd_left _ _)).symm
  have e4 : d1 = Nat.gcd n2 d1 * (d1 / Nat.gcd n2 d1) := (Nat.mul_div_cancel' (Nat.gcd_dvd_right _ _)).symm
  generalize Nat.gcd n1 d2 = g1 at *
  generalize Nat.gcd n2 d1 = g2 at *
  generalize n1 / g1 = a at *
  generalize d2 / g1 = e at *
  generalize n2 / g2 = b at *
  generalize d1 / g2 = c at *
  subst e1 e2 e3 e4
  have h3 : Nat.Coprime a c := Nat.Coprime.coprime_dvd_left ⟨g1, Nat.mul_comm _ _⟩ (Nat.Coprime.coprime_dvd_right ⟨g2, Nat.mul_comm _ _⟩ h1)
  have h4 : Nat.Coprime b e := Nat.Coprime.coprime_dvd_left ⟨g2, Nat.mul_comm _ _⟩ (Nat.Coprime.coprime_dvd_right ⟨g1, Nat.mul_comm _ _⟩ h2)
  have h5 : Nat.gcd (a * b) (c * e) = 1 := Nat.Coprime.mul_left (Nat.Coprime.mul_right h3 c1) (Nat.Coprime.mul_right c2 h4)
  have x1 : g1 * a * (g2 * b) = (g1 * g2) * (a * b) := by rw [Nat.mul_assoc, Nat.mul_assoc, Nat.mul_left_comm a]
  have x2 : g2 * c * (g1 * e) = (g1 * g2) * (c * e) := by rw [Nat.mul_assoc, Nat.mul_left_comm c, ← Nat.mul_assoc, Nat.mul_comm g2]
  have x3 : 0 < g1 * g2 := Nat.mul_pos q1 q2
  refine ⟨?_, ?_, ?_⟩
  · rw [x1, x2, Nat.gcd_mul_left, h5, Nat.mul_one]
  · rw [x1, Nat.mul_div_cancel_left _ x3]
  · rw [x2, Nat.mul_div_cancel_left _ x3, Nat.mul_comm]
theorem numR_pos (n d : Int) (hd : 1 ≤ d) : numR n d = if n < 0 then -((n.natAbs / Nat.gcd n.natAbs d.natAbs : Nat) : Int) else ((n.natAbs / Nat.gcd n.natAbs d.natAbs : Nat) : Int) := by
  unfold numR
  rw [show decide (d < 0) = false by simp; omega]
  by_cases h : n < 0
  · rw [if_neg (by simp [h]), if_pos h]
  · rw [if_pos (by simp; omega), if_neg h]
theorem low_pairs (n1 n2 d1 d2 : Int) (p1 : 1 ≤ d1) (p2 : 1 ≤ d2) (h1 : Nat.gcd n1.natAbs d1.natAbs = 1) (h2 : Nat.gcd n2.natAbs d2.natAbs = 1) :
    numR (n1 * n2) (d1 * d2) = numR n1 d2 * numR n2 d1 ∧ denR (n1 * n2) (d1 * d2) = denR n1 d2 * denR n2 d1 := by
  obtain ⟨g1, g2, g3⟩ := gcd_pairs n1.natAbs n2.natAbs d1.natAbs d2.natAbs h1 h2 (by omega) (by omega)
  have hd : 1 ≤ d1 * d2 := by
    have := Int.mul_le_mul p1 p2 (by omega) (by omega)
    omega
  refine ⟨?_, ?_⟩
  · rw [numR_pos _ _ hd, numR_pos _ _ p2, numR_pos _ _ p1, Int.natAbs_mul, Int.natAbs_mul, g1, g2]
    have z1 : n1 = 0 → n1.natAbs / Nat.gcd n1.natAbs d2.natAbs = 0 := fun h => by subst h; simp
    have z2 : n2 = 0 → n2.natAbs / Nat.gcd n2.natAbs d1.natAbs = 0 := fun h => by subst h; simp
    generalize n1.natAbs / Nat.gcd n1.natAbs d2.natAbs = a at *
    generalize n2.natAbs / Nat.gcd n2.natAbs d1.natAbs = b at *
    rw [Int.natCast_mul]
    rcases Int.lt_trichotomy n1 0 with s1 | s1 | s1
    · rcases Int.lt_trichotomy n2 0 with s2 | s2 | s2
      · have : 0 < n1 * n2 := Int.mul_pos_of_neg_of_neg s1 s2
        rw [if_neg (by omega), if_pos s1, if_pos s2, Int.neg_mul_neg]
      · subst s2; rw [z2 rfl]; simp
      · have : n1 * n2 < 0 := Int.mul_neg_of_neg_of_pos s1 s2
        rw [if_pos this, if_pos s1, if_neg (by omega), Int.neg_mul]
    · subst s1; rw [z1 rfl]; simp
    · rcases Int.lt_trichotomy n2 0 with s2 | s2 | s2
      · have : n1 * n2 < 0 := Int.mul_neg_of_pos_of_neg s1 s2
        rw [if_pos this, if_neg (by omega), if_pos s2, Int.mul_neg]
      · subst s2; rw [z2 rfl]; simp
      · have : 0 < n1 * n2 := Int.mul_pos s1 s2
        rw [if_neg (by omega), if_neg (by omega), if_neg (by omega)]
  · unfold denR
    rw [Int.natAbs_mul, Int.natAbs_mul, g1, g3, Int.natCast_mul]
theorem mul_wfit {a b : Int} (ha : IFit a) (hb : IFit b) : WFit (a * b) := by
  obtain ⟨a1, a2⟩ := ha
  obtain ⟨b1, b2⟩ := hb
  have h1 : a.natAbs ≤ 9223372036854775808 := by omega
  have h2 : b.natAbs ≤ 9223372036854775808 := by omega
  have h3 := Nat.mul_le_mul h1 h2
  rw [← Int.natAbs_mul] at h3
  unfold WFit
  omega
theorem rx_blk {w : World} {b : Nat} {x y : Value} (h : Rx w b x y) : w.cell? ⟨b, 0, none⟩ = some x ∧ w.cell? ⟨b, 1, none⟩ = some y := ⟨h.cells.1, h.cells.2.1⟩
end Go.Proofs.YtigjjddblijpbaaGreatDoor
namespace Go.Proofs.YtigjjddblijpbaaGreatDoor
open Go.RowKit
set_option linter.unusedSimpArgs false
set_option linter.unusedVariables false

theorem fit_low {n d : Int} (hn : IFit n) (hd : IFit d) (h1 : 1 ≤ d) : fitR n d := by
  have e1 := numR_le n d
  have e2 := denR_le n d
  have e3 := numR_pos n d h1
  have e4 : n.natAbs / Nat.gcd n.natAbs d.natAbs ≤ n.natAbs := Nat.div_le_self _ _
  obtain ⟨A, eA⟩ : ∃ A, n.natAbs / Nat.gcd n.natAbs d.natAbs = A := ⟨_, rfl⟩
  rw [eA] at e3 e4
  have e5 : 0 ≤ denR n d := by unfold denR; exact Int.natCast_nonneg _
  unfold fitR IFit at *
  refine ⟨?_, by omega⟩
  rw [e3]
  by_cases h : n < 0
  · rw [if_pos h]; omega
  · rw [if_neg h]; omega
/-- What Times answers for two good ratios: the product, if both its numbers are ints. -/
def TimesAns (p q : Int) (w : World) (e : Ending) (w' : World) : Prop :=
  (intB p = true ∧ intB q = true → e = .returned (.tuple #[.agg #[.int .i64 p, .int .i64 q], .int .i64 0])) ∧ (¬ (intB p = true ∧ intB q = true) → e = .returned (.tuple #[.agg #[.int .i64 0, .int .i64 0], .int .i64 2])) ∧ Below w.heap.size w w'
end Go.Proofs.YtigjjddblijpbaaGreatDoor
namespace Go.Proofs.YtigjjddblijpbaaGreatDoor
open Go.RowKit
set_option linter.unusedSimpArgs false
set_option linter.unusedVariables false

/-- What Of answers, whatever it is given. -/
def ofB (n d : Int) : Bool := intB (numR n d) && intB (denR n d)
theorem ofB_iff {n d : Int} : ofB n d = true ↔ fitR n d := by
  unfold ofB fitR
  rw [Bool.and_eq_true, intB_iff', intB_iff']
def ofN (n d : Int) : Int := if d = 0 then 0 else if ofB n d then numR n d else 0
def ofD (n d : Int) : Int := if d = 0 then 0 else if ofB n d then denR n d else 0
def ofE (n d : Int) : Int := if d = 0 then 3 else if ofB n d then 0 else 2
theorem rat_of_all (n d : Int) (hn : IFit n) (hd : IFit d) (w : World) :
    Calls Tryz.prog 31 #[.int .i64 n, .int .i64 d] w fun e w' => e = .returned (.tuple #[.agg #[.int .i64 (ofN n d), .int .i64 (ofD n d)], .int .i64 (ofE n d)]) ∧ Below w.heap.size w w' := by
  unfold ofN ofD ofE
  by_cases h0 : d = 0
  · subst h0
    simp only [if_true]
    exact rat_of_zero n w
  · simp only [if_neg h0]
    refine (rat_of_any n d hn hd h0 w).mono fun e w' h => ?_
    by_cases hf : ofB n d = true
    · simp only [if_pos hf]
      exact ⟨h.1 (ofB_iff.1 hf), h.2.2⟩
    · simp only [if_neg hf]
      exact ⟨h.2.1 (fun x => hf (ofB_iff.2 x)), h.2.2⟩
theorem ofE_zero {n d : Int} (h : ofE n d = 0) : IFit (ofN n d) ∧ IFit (ofD n d) ∧ goodB (ofN n d) (ofD n d) = true := by
  unfold ofE at h
  by_cases h0 : d = 0
  · rw [if_pos h0] at h; cases h
  · rw [if_neg h0] at h
    by_cases hf : ofB n d = true
    · unfold ofN ofD
      simp only [if_neg h0, if_pos hf]
      have := ofB_iff.1 hf
      exact ⟨this.1, this.2, good_low n d h0⟩
    · rw [if_neg hf] at h; cases h
end Go.Proofs.YtigjjddblijpbaaGreatDoor
namespace Go.Proofs.YtigjjddblijpbaaGreatDoor
open Go.RowKit
set_option linter.unusedSimpArgs false
set_option linter.unusedVariables false

theorem gcd_odd {m : Nat} (h : m % 2 = 1) (j : Nat) : Nat.gcd m (2 ^ j) = 1 := by
  have h2 : Nat.Coprime m 2 := by
    show Nat.gcd m 2 = 1
    rw [Nat.gcd_comm, Nat.gcd_rec, h]
    decide
  exact Nat.Coprime.pow_right j h2
theorem low_pow {m : Nat} (h : m % 2 = 1) (z j : Nat) : m * 2 ^ z / Nat.gcd (m * 2 ^ z) (2 ^ j) = m * 2 ^ (z - j) ∧ 2 ^ j / Nat.gcd (m * 2 ^ z) (2 ^ j) = 2 ^ (j - z) := by
  by_cases c : j ≤ z
  · have e : m * 2 ^ z = m * 2 ^ (z - j) * 2 ^ j := by rw [Nat.mul_assoc, ← Nat.pow_add, show z - j + j = z by omega]
    have hp : 0 < 2 ^ j := Nat.pow_pos (by decide)
    have hg : Nat.gcd (m * 2 ^ z) (2 ^ j) = 2 ^ j := by rw [e, Nat.mul_comm, Nat.gcd_mul_right_left]
    rw [hg, e, Nat.mul_div_cancel _ hp, Nat.div_self hp, show j - z = 0 by omega]
    exact ⟨rfl, rfl⟩
  · have e : 2 ^ j = 2 ^ (j - z) * 2 ^ z := by rw [← Nat.pow_add, show j - z + z = j by omega]
    have hp : 0 < 2 ^ z := Nat.pow_pos (by decide)
    have hg : Nat.gcd (m * 2 ^ z) (2 ^ j) = 2 ^ z := by rw [e, Nat.gcd_mul_right, gcd_odd h, Nat.one_mul]
    rw [hg, e, Nat.mul_div_cancel _ hp, Nat.mul_div_cancel _ hp, show z - j = 0 by omega]
    exact ⟨by simp, rfl⟩
/-- The number that a float is, both parts. -/
def fP (b : Nat) : Int := fNu b * (fUp b : Int)
def fQ (b : Nat) : Int := (fLo b : Int)
theorem fQ_pos (b : Nat) : 0 < fQ b := by
  have : 0 < fLo b := Nat.pow_pos (by omega)
  unfold fQ; omega
/-- What Exact answers. -/
def exE (b : Nat) : Int := if fKi b = 1 then 4 else if fKi b = 2 then 5 else if ofB (fP b) (fQ b) then 0 else 2
def exN (b : Nat) : Int := if fKi b = 1 ∨ fKi b = 2 then 0 else if ofB (fP b) (fQ b) then numR (fP b) (fQ b) else 0
def exD (b : Nat) : Int := if fKi b = 1 ∨ fKi b = 2 then 0 else if ofB (fP b) (fQ b) then denR (fP b) (fQ b) else 0
theorem sg_zero {b : Nat} (h : fWh b = 0) : fP b = 0 := by
  unfold fP fNu; rw [h]; simp
theorem ex_low {b m z : Nat} (hw : fWh b = m * 2 ^ z) (ho : m % 2 = 1) :
    numR (fP b) (fQ b) = (if fSg b then -((m * 2 ^ (fPo b + z).toNat : Nat) : Int) else ((m * 2 ^ (fPo b + z).toNat : Nat) : Int)) ∧ denR (fP b) (fQ b) = ((2 ^ (-(fPo b + z)).toNat : Nat) : Int) := by
  have hn : (fP b).natAbs = m * 2 ^ (z + (fPo b).toNat) := by
    unfold fP fNu fUp
    rw [Int.natAbs_mul, Int.natAbs_natCast, hw, Nat.pow_add, ← Nat.mul_assoc]
    obtain ⟨x, ex⟩ : ∃ x, m * 2 ^ z = x := ⟨_, rfl⟩
    rw [ex]
    cases fSg b <;> simp [Int.natAbs_natCast]
  have hd : (fQ b).natAbs = 2 ^ (-fPo b).toNat := by unfold fQ fLo; rw [Int.natAbs_natCast]
  have hl := low_pow ho (z + (fPo b).toNat) (-fPo b).toNat
  have hq := fQ_pos b
  have hp : 0 < m * 2 ^ (z + (fPo b).toNat) := Nat.mul_pos (by omega) (Nat.pow_pos (by decide))
  have hs : fP b < 0 ↔ fSg b = true := by
    have : fP b = if fSg b then -((fWh b * fUp b : Nat) : Int) else ((fWh b * fUp b : Nat) : Int) := by
      unfold fP fNu
      cases fSg b <;> simp [Int.neg_mul]
    rw [this] at hn ⊢
    obtain ⟨x, ex⟩ : ∃ x, fWh b * fUp b = x := ⟨_, rfl⟩
    rw [ex] at hn ⊢
    replace hp := hp
    rw [← hn] at hp
    clear hn this hl
    revert hp
    cases fSg b
    · intro hp; simp only [Bool.false_eq_true, if_false] at hp ⊢; exact ⟨fun h => by omega, fun h => h.elim⟩
    · intro hp; simp only [if_true] at hp ⊢; exact ⟨fun _ => trivial, fun _ => by omega⟩
  unfold numR denR
  rw [hn, hd, hl.1, hl.2, decide_eq_false (show ¬ fQ b < 0 by omega)]
  rw [show (z + (fPo b).toNat - (-fPo b).toNat) = (fPo b + z).toNat by omega, show ((-fPo b).toNat - (z + (fPo b).toNat)) = (-(fPo b + z)).toNat by omega]
  refine ⟨?_, rfl⟩
  cases h : fSg b
  · rw [decide_eq_false (fun x => by rw [hs, h] at x; cases x)]; simp
  · rw [decide_eq_true (hs.2 h)]; simp
/-- Both parts fit: what Of answers of them. -/
theorem of_same {n d : Int} (h : 1 ≤ d) (hg : Nat.gcd n.natAbs d.natAbs = 1) : numR n d = n ∧ denR n d = d := by
  unfold numR denR
  rw [hg, Nat.div_one, Nat.div_one, decide_eq_false (show ¬ d < 0 by omega)]
  constructor
  · by_cases c : n < 0
    · rw [decide_eq_true c, if_neg (by decide)]; omega
    · rw [decide_eq_false c, if_pos rfl]; omega
  · omega
theorem ofB_of {n d : Int} (h1 : IFit (numR n d)) (h2 : IFit (denR n d)) : ofB n d = true := ofB_iff.2 ⟨h1, h2⟩
theorem ofB_no {n d : Int} (h : ¬ (IFit (numR n d) ∧ IFit (denR n d))) : ofB n d = false := by
  cases e : ofB n d
  · rfl
  · exact absurd (ofB_iff.1 e) h
/-- A float of no size. -/
theorem ex_zero {b : Nat} (hk : fKi b ≠ 1 ∧ fKi b ≠ 2) (h : fWh b = 0) : exN b = 0 ∧ exD b = 1 ∧ exE b = 0 := by
  have hq := fQ_pos b
  have hn : numR (fP b) (fQ b) = 0 := by
    rw [sg_zero h]; unfold numR; simp
  have hd : denR (fP b) (fQ b) = 1 := by
    rw [sg_zero h]
    unfold denR
    simp only [Int.natAbs_zero, Nat.gcd_zero_left]
    rw [Nat.div_self (by omega)]; rfl
  have ho : ofB (fP b) (fQ b) = true := ofB_of (by rw [hn]; unfold IFit; omega) (by rw [hd]; unfold IFit; omega)
  unfold exN exD exE
  have h3 : ¬ (fKi b = 1 ∨ fKi b = 2) := fun h => h.elim hk.1 hk.2
  simp only [if_neg h3, if_neg hk.1, if_neg hk.2, ho, if_true, hn, hd, and_self]
theorem ex_range {b m z : Nat} (hk : fKi b ≠ 1 ∧ fKi b ≠ 2) (hw : fWh b = m * 2 ^ z) (ho : m % 2 = 1)
    (h : fPo b + z < -62 ∨ (0 ≤ fPo b + z ∧ (if fSg b then 9223372036854775808 < m * 2 ^ (fPo b + z).toNat else 9223372036854775808 ≤ m * 2 ^ (fPo b + z).toNat))) : exN b = 0 ∧ exD b = 0 ∧ exE b = 2 := by
  obtain ⟨l1, l2⟩ := ex_low hw ho
  have hb : ofB (fP b) (fQ b) = false := by
    refine ofB_no fun ⟨f1, f2⟩ => ?_
    rw [l1] at f1
    rw [l2] at f2
    rcases h with h | ⟨h, h'⟩
    · have : 2 ^ 63 ≤ 2 ^ (-(fPo b + z)).toNat := Nat.pow_le_pow_right (by decide) (by omega)
      rw [show (2 : Nat) ^ 63 = 9223372036854775808 by decide] at this
      unfold IFit at f2
      omega
    · unfold IFit at f1
      cases hs : fSg b
      · rw [hs] at h' f1; simp only [Bool.false_eq_true, if_false] at h' f1; omega
      · rw [hs] at h' f1; simp only [if_true] at h' f1; omega
  unfold exN exD exE
  have h3 : ¬ (fKi b = 1 ∨ fKi b = 2) := fun h => h.elim hk.1 hk.2
  simp only [if_neg h3, if_neg hk.1, if_neg hk.2, hb, Bool.false_eq_true, if_false, and_self]
theorem ex_frac {b m z j : Nat} (hk : fKi b ≠ 1 ∧ fKi b ≠ 2) (hw : fWh b = m * 2 ^ z) (ho : m % 2 = 1) (hj : fPo b + z = -(j : Int)) (h1 : 0 < j) (h2 : j ≤ 62) :
    exN b = (if fSg b then -(m : Int) else (m : Int)) ∧ exD b = ((2 ^ j : Nat) : Int) ∧ exE b = 0 ∧ ofN (if fSg b then -(m : Int) else (m : Int)) ((2 ^ j : Nat) : Int) = exN b ∧ ofD (if fSg b then -(m : Int) else (m : Int)) ((2 ^ j : Nat) : Int) = exD b ∧ ofE (if fSg b then -(m : Int) else (m : Int)) ((2 ^ j : Nat) : Int) = exE b := by
  obtain ⟨l1, l2⟩ := ex_low hw ho
  rw [hj, show (-(j : Int)).toNat = 0 by omega, Nat.pow_zero, Nat.mul_one] at l1
  rw [hj, show (-(-(j : Int))).toNat = j by omega] at l2
  have hml : m ≤ fWh b := by rw [hw]; exact Nat.le_mul_of_pos_right _ (Nat.pow_pos (by decide))
  have hwl := fWh_lt b
  have hp : 2 ^ j ≤ 2 ^ 62 := Nat.pow_le_pow_right (by decide) h2
  rw [show (2 : Nat) ^ 62 = 4611686018427387904 by decide] at hp
  have hp0 : 0 < 2 ^ j := Nat.pow_pos (by decide)
  obtain ⟨V, eV⟩ : ∃ V : Int, (if fSg b then -(m : Int) else (m : Int)) = V := ⟨_, rfl⟩
  have hV : V.natAbs = m := by rw [← eV]; cases fSg b <;> simp
  have fV : IFit V := by unfold IFit; omega
  have fD : IFit ((2 ^ j : Nat) : Int) := by unfold IFit; omega
  rw [eV] at l1 ⊢
  have hb : ofB (fP b) (fQ b) = true := ofB_of (by rw [l1]; exact fV) (by rw [l2]; exact fD)
  obtain ⟨s1, s2⟩ := of_same (n := V) (d := ((2 ^ j : Nat) : Int)) (by omega) (by rw [hV, Int.natAbs_natCast]; exact gcd_odd ho j)
  have hb2 : ofB V ((2 ^ j : Nat) : Int) = true := ofB_of (by rw [s1]; exact fV) (by rw [s2]; exact fD)
  unfold exN exD exE ofN ofD ofE
  have h3 : ¬ (fKi b = 1 ∨ fKi b = 2) := fun h => h.elim hk.1 hk.2
  have h4 : ¬ ((2 ^ j : Nat) : Int) = 0 := by omega
  simp only [if_neg h3, if_neg hk.1, if_neg hk.2, if_neg h4, hb, hb2, if_true, s1, s2, l1, l2, and_self]
theorem ex_int {b m z j : Nat} (hk : fKi b ≠ 1 ∧ fKi b ≠ 2) (hw : fWh b = m * 2 ^ z) (ho : m % 2 = 1) (hj : fPo b + z = (j : Int)) (hf : if fSg b then m * 2 ^ j ≤ 9223372036854775808 else m * 2 ^ j < 9223372036854775808) :
    exN b = (if fSg b then -((m * 2 ^ j : Nat) : Int) else ((m * 2 ^ j : Nat) : Int)) ∧ exD b = 1 ∧ exE b = 0 ∧ ofN (if fSg b then -((m * 2 ^ j : Nat) : Int) else ((m * 2 ^ j : Nat) : Int)) 1 = exN b ∧ ofD (if fSg b then -((m * 2 ^ j : Nat) : Int) else ((m * 2 ^ j : Nat) : Int)) 1 = exD b ∧ ofE (if fSg b then -((m * 2 ^ j : Nat) : Int) else ((m * 2 ^ j : Nat) : Int)) 1 = exE b := by
  obtain ⟨l1, l2⟩ := ex_low hw ho
  rw [hj, Int.toNat_natCast] at l1
  rw [hj, show (-(j : Int)).toNat = 0 by omega, Nat.pow_zero] at l2
  obtain ⟨V, eV⟩ : ∃ V : Int, (if fSg b then -((m * 2 ^ j : Nat) : Int) else ((m * 2 ^ j : Nat) : Int)) = V := ⟨_, rfl⟩
  have fV : IFit V := by
    rw [← eV]
    unfold IFit
    cases hs : fSg b
    · rw [hs] at hf; simp only [Bool.false_eq_true, if_false] at hf ⊢; omega
    · rw [hs] at hf; simp only [if_true] at hf ⊢; omega
  have fD : IFit (1 : Int) := by unfold IFit; omega
  rw [eV] at l1 ⊢
  have l2' : denR (fP b) (fQ b) = 1 := l2
  have hb : ofB (fP b) (fQ b) = true := ofB_of (by rw [l1]; exact fV) (by rw [l2']; exact fD)
  obtain ⟨s1, s2⟩ := of_same (n := V) (d := 1) (by omega) (by simp)
  have hb2 : ofB V 1 = true := ofB_of (by rw [s1]; exact fV) (by rw [s2]; exact fD)
  unfold exN exD exE ofN ofD ofE
  have h3 : ¬ (fKi b = 1 ∨ fKi b = 2) := fun h => h.elim hk.1 hk.2
  have h4 : ¬ (1 : Int) = 0 := by decide
  simp only [if_neg h3, if_neg hk.1, if_neg hk.2, if_neg h4, hb, hb2, if_true, s1, s2, l1, l2', and_self]
end Go.Proofs.YtigjjddblijpbaaGreatDoor
