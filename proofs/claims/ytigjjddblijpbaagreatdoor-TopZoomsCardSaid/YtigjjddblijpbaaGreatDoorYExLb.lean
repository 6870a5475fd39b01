/-
  A walker by reckoning: TopZooms holds.
-/
import Derived.Test.YtigjjddblijpbaaGreatDoorYExLa
import Derived.Test.YtigjjddblijpbaaGreatDoorZ16
namespace Go.Proofs.YtigjjddblijpbaaGreatDoor.Ex
open Go Go.RowKit
set_option linter.unusedSimpArgs false
set_option linter.unusedVariables false

theorem cx_of {z : Zin} (hz : z.Fit) {fs : List (BinOp × Value × Value × Value)} (hf : FactsOK Tryz.prog z.Y fs) : CxOK (CL fs) Tryz.prog z.Y := by
  refine ⟨bd_ok hz, fun op a b r hm => ?_, convs1_ok hz, fun T h => (any_one (k := 364) h) ▸ askT, fun T h => (any_one (k := 57) h) ▸ eqT57⟩
  rcases List.mem_append.1 hm with h | h
  · exact hf op a b r h
  · exact facts1_ok hz op a b r h
theorem hk1_s : HkS hk1 := hkOr_s (hkPure_s _) (hkOr_s (hkClone_s _) hkTry_s)
theorem hk1_g {z : Zin} (hz : z.Fit) : HkG (VZ z.Y) Tryz.prog hk1 := hkOr_g (hkPure_g (orF_ok hotF_ok (orF_ok (tbl_pure (T0_ok _)) (tbl_pure (T1_ok hz))))) (hkOr_g clone_g hkTry_g)
theorem cks_good {z : Zin} (hz : z.Fit) : ∀ c, c ∈ cks → c.Good (VZ z.Y) Tryz.prog := by
  have hcl : ClOK (VZ z.Y) Tryz.prog (evF hk1 C1 Tryz.prog 2000 60) := evF_ok hk1_s (hk1_g hz).ok mixed enters (cx_of hz (fs := []) facts_nil) 60
  have each : ∀ {l : List Ck} {c : Ck}, c.Good (VZ z.Y) Tryz.prog → (∀ d, d ∈ l → d.Good (VZ z.Y) Tryz.prog) → ∀ d, d ∈ c :: l → d.Good (VZ z.Y) Tryz.prog := fun h hl d hd => by
    cases hd with
    | head => exact h
    | tail _ hd => exact hl d hd
  unfold cks
  exact each (chk_good hcl ck_a_ok) (each (chk_good hcl ck_b_ok) (each (chk_good hcl ck_c_ok) (each (chk_good hcl ck_d_ok) (each (chk_good hcl ck_e_ok) (each (chk_good hcl ck_f_ok) (each (chk_good hcl ck_g_ok)
    (each (chk_good hcl ck_h_ok) (each (chk_good hcl ck_i_ok) (each (chk_good hcl ck_j_ok) (each (chk_good hcl ck_k_ok) (each (chk_good hcl ck_l_ok) (each (chk_good hcl ck_m_ok) (fun d h => by cases h)))))))))))))
/-- What comes in, as a value. -/
def Zin.v (z : Zin) : Value := .agg #[.int .u32 z.W, .int .u8 z.a1, .int .u8 z.a2, .int .u8 z.b1, .int .u8 z.b2]
theorem law_of {z : Zin} (hz : z.Fit) {fs : List (BinOp × Value × Value × Value)} (hf : FactsOK Tryz.prog z.Y fs) (h : isTrue (evF hkL (CL fs) Tryz.prog 2000 60 3 lawA .e 0) = true) (w : World) (hK : StyW w) :
    Calls Tryz.prog 3 #[z.v] w fun e w' => e = .returned (.bool true) ∧ Below w.heap.size w w' := by
  have hcl : ClOK (VZ z.Y) Tryz.prog (evF hkL (CL fs) Tryz.prog 2000 60) := evF_ok (hkOr_s (hkM_s (cks_good hz)) hk1_s) (hkOr_g (hkM_g (cks_good hz)) (hk1_g hz)).ok mixed enters (cx_of hz hf) 60
  cases hr : evF hkL (CL fs) Tryz.prog 2000 60 3 lawA .e 0 with
  | none => rw [hr] at h; cases h
  | some r =>
    obtain ⟨v, H', nx', wr⟩ := r
    rw [hr] at h
    unfold isTrue at h
    split at h
    · rename_i he
      cases he
      obtain ⟨_, _, g⟩ := hcl _ _ _ _ _ _ _ _ hr
      have ha : concL z.Y (fun _ => none) lawA = some [z.v] := rfl
      refine (g (fun _ => none) w _ (hr_none (gZ_le hK) hK) (fun _ _ => rfl) ha).mono fun e w' he => ?_
      obtain ⟨v', E', rfl, h5, st⟩ := he
      cases h5
      exact ⟨rfl, st.os, st.tape, st.output, st.size, fun b hb => st.fr b hb (fun l p _ hl => by omega)⟩
    · cases h
theorem law_zooms {z : Zin} (hz : z.Fit) (w : World) (hK : StyW w) : Calls Tryz.prog 3 #[z.v] w fun e w' => e = .returned (.bool true) ∧ Below w.heap.size w w' := by
  have c := css_bd z
  have s1 : 1 ≤ z.s1 ∧ z.s1 ≤ 65536 := prod_bd hz.a1 hz.a2
  have s2 : 1 ≤ z.s2 ∧ z.s2 ≤ 65536 := prod_bd hz.b1 hz.b2
  have S : ∀ j, IsI z.Y (.complex .f32 j 0) (z.i j) := fun j => isI_s j
  have mono : ∀ {s t : Int}, s ≤ t → z.css * s / 4096 ≤ z.css * t / 4096 := fun h => Int.ediv_le_ediv (by omega) (Int.mul_le_mul_of_nonneg_left h c.1)
  have cmp : ∀ (op : BinOp) (j k : Nat) (t : Bool), cmpB op (z.i j) (z.i k) = some t → (∀ m n, intBin op .i64 m .i64 n = (match cmpB op m n with | some t => some (.bool t) | none => none)) → FactOK Tryz.prog z.Y op (sy j) (sy k) (.bool t) := fun op j k t h hi =>
    fact_cmp (S j) (S k) (by rw [hi, h])
  have gtr : ∀ t, decide (z.s2 < z.s1) = t → FactOK Tryz.prog z.Y .gtr (sy 20) (sy 21) (.bool t) := fun t h => cmp .gtr 20 21 t (by show some (ltI z.s2 z.s1) = _; rw [ltI_eq, h]) (fun _ _ => rfl)
  have lss : ∀ t, decide (z.s1 < z.s2) = t → FactOK Tryz.prog z.Y .lss (sy 20) (sy 21) (.bool t) := fun t h => cmp .lss 20 21 t (by show some (ltI z.s1 z.s2) = _; rw [ltI_eq, h]) (fun _ _ => rfl)
  have leq : z.s1 ≤ z.s2 → FactOK Tryz.prog z.Y .leq (sy 44) (sy 54) (.bool true) := fun h => cmp .leq 44 54 true (by show some (leI z.g1 z.g2) = _; rw [leI_eq, decide_eq_true (show z.g1 ≤ z.g2 from mono h)]) (fun _ _ => rfl)
  have geq : z.s2 ≤ z.s1 → FactOK Tryz.prog z.Y .geq (sy 44) (sy 54) (.bool true) := fun h => cmp .geq 44 54 true (by show some (leI z.g2 z.g1) = _; rw [leI_eq, decide_eq_true (show z.g2 ≤ z.g1 from mono h)]) (fun _ _ => rfl)
  rcases Int.lt_trichotomy z.s1 z.s2 with h | h | h
  · exact law_of hz (facts_cons (gtr false (by simp; omega)) (facts_cons (leq (by omega)) (facts_cons (lss true (by simpa using h)) facts_nil))) law_lt w hK
  · exact law_of hz (facts_cons (gtr false (by simp; omega)) (facts_cons (leq (by omega)) (facts_cons (lss false (by simp; omega)) (facts_cons (geq (by omega)) facts_nil)))) law_eq w hK
  · exact law_of hz (facts_cons (gtr true (by simpa using h)) (facts_cons (lss false (by simp; omega)) (facts_cons (geq (by omega)) facts_nil))) law_gt w hK
end Go.Proofs.YtigjjddblijpbaaGreatDoor.Ex
