/-
  What came in, opened: small items (LineGreedy, LineStands).
-/
import Derived.Test.YthofammjbicogaaYOpenB
namespace Go.Proofs.Ythofammjbicogaa
open Go.ChangeShapes Go.WideShapes Go.ChangeAt Go.RowKit Go.Joins Go.Deep
set_option linter.unusedVariables false

structure Sm where
  w : Int
  s : Int
  b : Bool
def sm0 : Sm := ⟨0, 0, false⟩
def smV (l : List Sm) : List Value := l.flatMap fun x => [.int .u16 x.w, .int .u16 x.s, .bool x.b]
theorem smV_len : ∀ l : List Sm, (smV l).length = l.length * 3
  | [] => rfl
  | x :: l => by
    have := smV_len l
    unfold smV at this ⊢
    rw [List.flatMap_cons, List.length_append, this]
    simp; omega
theorem smV_get : ∀ (l : List Sm) (j : Nat), j < l.length → (smV l)[j * 3 + 0]? = some (.int .u16 (l.getD j sm0).w) ∧ (smV l)[j * 3 + 1]? = some (.int .u16 (l.getD j sm0).s) ∧ (smV l)[j * 3 + 2]? = some (.bool (l.getD j sm0).b)
  | [], j, h => by simp at h
  | x :: l, 0, _ => ⟨rfl, rfl, rfl⟩
  | x :: l, j + 1, h => by
    have := smV_get l j (by simpa using h)
    have e : smV (x :: l) = [.int .u16 x.w, .int .u16 x.s, .bool x.b] ++ smV l := rfl
    rw [e]
    have g : ∀ k, ([.int .u16 x.w, .int .u16 x.s, .bool x.b] ++ smV l)[(j + 1) * 3 + k]? = (smV l)[j * 3 + k]? := fun k => by
      rw [List.getElem?_append_right (by simp; omega)]
      congr 1
      simp; omega
    rw [g, g, g]
    simpa [List.getD] using this
theorem smV_take : ∀ (l : List Sm) (m : Nat), (smV l).take (m * 3) = smV (l.take m)
  | [], m => by simp [smV]
  | x :: l, 0 => by simp [smV]
  | x :: l, m + 1 => by
    have e : smV (x :: l) = .int .u16 x.w :: .int .u16 x.s :: .bool x.b :: smV l := rfl
    rw [e, show (m + 1) * 3 = m * 3 + 1 + 1 + 1 by omega, List.take_succ_cons, List.take_succ_cons, List.take_succ_cons, smV_take l m, List.take_succ_cons]
    rfl
def SmFit (l : List Sm) : Prop := ∀ i, (0 ≤ (l.getD i sm0).w ∧ (l.getD i sm0).w ≤ 65535) ∧ (0 ≤ (l.getD i sm0).s ∧ (l.getD i sm0).s ≤ 65535)
theorem sms_of : ∀ (n : Nat) (vs : List Value), vs.length = n * 3 → (∀ i, i < n → ∃ x y b, vs[i * 3 + 0]? = some (.int .u16 x) ∧ vs[i * 3 + 1]? = some (.int .u16 y) ∧ vs[i * 3 + 2]? = some (.bool b) ∧ (0 ≤ x ∧ x ≤ 65535) ∧ (0 ≤ y ∧ y ≤ 65535)) → ∃ l : List Sm, l.length = n ∧ vs = smV l ∧ SmFit l
  | 0, vs, h, _ => ⟨[], rfl, (List.eq_nil_of_length_eq_zero (by simpa using h)).trans rfl, fun i => by simp [sm0, List.getD]⟩
  | n + 1, vs, h, hf => by
    match vs, h with
    | [], h => exact absurd h (by simp)
    | [_], h => exact absurd h (by simp; omega)
    | [_, _], h => exact absurd h (by simp; omega)
    | a :: b :: c :: vs, h =>
      obtain ⟨x, y, q, e0, e1, e2, f0, f1⟩ := hf 0 (by omega)
      obtain ⟨l, hl, hv, hfit⟩ := sms_of n vs (by simp at h; omega) (fun i hi => by
        obtain ⟨x, y, q, e0, e1, e2, f⟩ := hf (i + 1) (by omega)
        rw [show (i + 1) * 3 + 0 = (i * 3 + 0) + 1 + 1 + 1 by omega] at e0
        rw [show (i + 1) * 3 + 1 = (i * 3 + 1) + 1 + 1 + 1 by omega] at e1
        rw [show (i + 1) * 3 + 2 = (i * 3 + 2) + 1 + 1 + 1 by omega] at e2
        exact ⟨x, y, q, by simpa using e0, by simpa using e1, by simpa using e2, f⟩)
      obtain rfl : a = .int .u16 x := by simpa using e0
      obtain rfl : b = .int .u16 y := by simpa using e1
      obtain rfl : c = .bool q := by simpa using e2
      refine ⟨⟨x, y, q⟩ :: l, by simp [hl], by rw [hv]; rfl, fun i => ?_⟩
      cases i with
      | zero => exact ⟨f0, f1⟩
      | succ i => simpa [List.getD] using hfit i
/-- Small items that came in. -/
def SmIn (w : World) (v : Value) : Prop := ∃ ao n cap l, v = .slice ao n cap ∧ n ≤ maxLen ∧ l.length = n ∧ RowV w ao n 3 (smV l) ∧ SmFit l
section
variable {H : Type} {enc : TypeId × Value → H} {P : Program} {w : World} {base b0 : Nat} {spare : Nat → Bool} {held : Bool} {r : Reach}
theorem smalls_dir {t e : TypeId} {fs : Array Field} {F0 F1 F2 : Field} {v : Value} {d : DataW H} {p : List MemPlace} (ht : P.underlying t = some (.slice e)) (he : P.underlying e = some (.struct fs)) (hone : oneCellFields P fs = true) (hE : P.cellsOf e = fs.size) (hfs : fs = #[F0, F1, F2])
    (h0 : P.underlying F0.type = some (.int .u16)) (h1 : P.underlying F1.type = some (.int .u16)) (h2 : P.underlying F2.type = some .bool) (hv : Value.okWide P w r b0 t v) (h : DataW.Trod enc P w base spare held t v d p) : SmIn w v := by
  obtain ⟨hok, n0, y, hy⟩ := open_dir ht hv h
  subst hfs
  rcases open_row_flat ht he hone hE (by simp) hok hy with rfl | ⟨g, off, n, cap, vs, rfl, c1, c2, c4, c5⟩
  · exact ⟨none, 0, 0, [], rfl, Nat.zero_le _, rfl, RowV.nil _ _ _, fun i => by simp [sm0, List.getD]⟩
  · obtain ⟨l, hl, hv, hf⟩ := sms_of n vs c4.1 (fun i hi => by
      obtain ⟨x, e0, w0⟩ := flat_int h0 (c5 i hi 0 F0 rfl)
      obtain ⟨y, e1, w1⟩ := flat_int h1 (c5 i hi 1 F1 rfl)
      obtain ⟨q, e3⟩ := flat_bool h2 (c5 i hi 2 F2 rfl)
      exact ⟨x, y, q, e0, e1, e3, u16_of_wf w0, u16_of_wf w1⟩)
    subst hv
    exact ⟨_, n, cap, l, rfl, by omega, hl, c4, hf⟩
end
end Go.Proofs.Ythofammjbicogaa
