/-
  The law FlexboxSpends: the two calls of Main.
-/
import Derived.Test.YthofammjbicogaaYFlU
namespace Go.Proofs.Ythofammjbicogaa
open Go.RowKit
set_option linter.unusedSimpArgs false
set_option linter.unusedVariables false

def SpdRel (b1 b2 b3 k : Nat) (LA LF MS : List Int) (B : Nat) (W : World) : Prop :=
  ∃ a1 c1 a2 c2 a3 c3, Blk W b1 #[.slice a1 k c1] 31 ∧ Blk W b2 #[.slice a2 k c2] 31 ∧ Blk W b3 #[.slice a3 k c3] 62 ∧ RowI W a1 k LA ∧ (∀ g off, a1 = some ⟨g, off, none⟩ → B < g) ∧ RowI W a2 k LF ∧ (∀ g off, a2 = some ⟨g, off, none⟩ → B < g) ∧ RowV W a3 k 2 (i64s MS) ∧ (∀ g off, a3 = some ⟨g, off, none⟩ → B < g)
theorem SpdRel.but {b1 b2 b3 k : Nat} {LA LF MS : List Int} {B : Nat} {W W' : World} (h : SpdRel b1 b2 b3 k LA LF MS B W) (hb : But B W W') (h1 : b1 < B) (h2 : b2 < B) (h3 : b3 < B) : SpdRel b1 b2 b3 k LA LF MS B W' := by
  obtain ⟨a1, c1, a2, c2, a3, c3, q1, q2, q3, r1, f1, r2, f2, r3, f3⟩ := h
  exact ⟨a1, c1, a2, c2, a3, c3, q1.but hb (by omega), q2.but hb (by omega), q3.but hb (by omega), r1.but hb (fun g off e => by have := f1 g off e; omega), f1, r2.but hb (fun g off e => by have := f2 g off e; omega), f2, r3.but hb (fun g off e => by have := f3 g off e; omega), f3⟩
set_option maxRecDepth 100000 in
set_option maxHeartbeats 3200000 in
theorem spends1 (bS bA bG bw bAt bWy bFl bM : Nat) (ao : Option Addr) (k cap : Nat) (xs : List Int) (av gp wy wv : Int) (b : Bool) (hl : Lim xs k av gp) (hg0 : 0 ≤ gp) (hg2 : gp ≤ 255) (eb : (bits BinOp.and IntKind.u8 wy 1 == 1) = b) (W : World) (hx : RowI W ao k xs)
    (v1 v2 v3 : Value) (hS : Blk W bS #[.slice ao k cap] 31) (hA : Blk W bA #[.int .i64 av] 2) (hG : Blk W bG #[.int .u8 gp] 5) (hW : Blk W bw #[.int .i64 wv] 3) (hY : Blk W bWy #[.int .u8 wy] 5)
    (h1 : Blk W bAt #[v1] 31) (h2 : Blk W bFl #[v2] 31) (h3 : Blk W bM #[v3] 62) (B : Nat) (hB : B < W.heap.size) (l1 : bAt ≤ B) (l2 : bFl ≤ B) (l3 : bM ≤ B)
    (n1 : bAt ≠ bFl) (n2 : bAt ≠ bM) (n3 : bFl ≠ bM) (n4 : bS ≠ bAt) (n5 : bA ≠ bAt) (n6 : bG ≠ bAt) (n7 : bw ≠ bAt) (n8 : bWy ≠ bAt) (hxo : ∀ g off, ao = some ⟨g, off, none⟩ → g ≠ bAt) :
    Calls Try.prog 40 #[.pointer (some ⟨bS, 0, none⟩), .pointer (some ⟨bA, 0, none⟩), .pointer (some ⟨bG, 0, none⟩), .pointer (some ⟨bw, 0, none⟩), .pointer (some ⟨bAt, 0, none⟩), .pointer (some ⟨bWy, 0, none⟩), .pointer (some ⟨bFl, 0, none⟩), .pointer (some ⟨bM, 0, none⟩)] W
      fun e W' => e = .returned (.tuple #[]) ∧ SpdRel bAt bFl bM k (mnAt xs [] k av gp wv) (mnAt xs [b, true] k av gp wv) (mnMs xs [b, true] k av gp) B W' ∧ ButL [bAt, bFl, bM] W W' := by
  have M1 := fun W hx' => flx_main_all ao none k cap 0 0 xs [] av gp wv hl (by omega) rfl W hx' (RowV.nil _ _ _)
  have M2 := fun ba W hx' hr' => flx_main_all ao ba k cap 1 1 xs [b, true] av gp wv hl (by omega) rfl W hx' hr'
  obtain ⟨LA, eLA⟩ : ∃ L, mnAt xs [] k av gp wv = L := ⟨_, rfl⟩
  obtain ⟨LF, eLF⟩ : ∃ L, mnAt xs [b, true] k av gp wv = L := ⟨_, rfl⟩
  obtain ⟨MS, eMS⟩ : ∃ L, mnMs xs [b, true] k av gp = L := ⟨_, rfl⟩
  obtain ⟨MS0, eMS0⟩ : ∃ L, mnMs xs [] k av gp = L := ⟨_, rfl⟩
  rw [eLA, eMS0] at M1
  rw [eLF, eMS] at M2
  rw [eLA, eLF, eMS]
  obtain ⟨Q, eQ⟩ : ∃ Q : Ending → World → Prop, Q = fun e W' => e = .returned (.tuple #[]) ∧ SpdRel bAt bFl bM k LA LF MS B W' ∧ ButL [bAt, bFl, bM] W W' := ⟨_, rfl⟩
  rw [← eQ]
  have EQ := Lib.hid eQ
  have HX := Lib.hid hx
  have H1 := Lib.hid h1
  have H2 := Lib.hid h2
  have H3 := Lib.hid h3
  have HS := Lib.hid hS
  have HA := Lib.hid hA
  have HG := Lib.hid hG
  have HW := Lib.hid hW
  have HY := Lib.hid hY
  have HXO := Lib.hid hxo
  have c1 := hS.cell 0 _ rfl
  have c2 := hA.cell 0 _ rfl
  have c3 := hG.cell 0 _ rfl
  have c4 := hW.cell 0 _ rfl
  have l1' := hS.lt
  clear eQ hx h1 h2 h3 hS hA hG hW hY hl eLA eLF eMS eMS0 hxo
  go_enter Try.func40, Try.ntmps40
  go_wp2_with fail
  refine (M1 _ HX.out).mono ?_
  rintro e w1 ⟨a1, c1', a0, c0', rfl, x1, f1, _, _, hb⟩
  have q1 := H1.out.below hb
  have d1 := q1.cell 0 _ rfl
  have g1 := q1.free 0
  obtain ⟨w2, ew⟩ : ∃ w2, w1.setCell ⟨bAt, 0, none⟩ (.slice a1 k c1') = w2 := ⟨_, rfl⟩
  have bt : But bAt w1 w2 := by rw [← ew]; exact But.set _ _ _
  have r1 : Blk w2 bAt #[.slice a1 k c1'] 31 := by rw [← ew]; exact q1.set 0 _
  have x1b := x1.but bt (fun g off e => by have := f1 g off e; omega)
  have r2 := (H2.out.below hb).but bt n1.symm
  have r3 := (H3.out.below hb).but bt n2.symm
  have rS := (HS.out.below hb).but bt n4
  have rA := (HA.out.below hb).but bt n5
  have rG := (HG.out.below hb).but bt n6
  have rW := (HW.out.below hb).but bt n7
  have rY := (HY.out.below hb).but bt n8
  have hx2 := (HX.out.below hb).but bt (fun g off e => HXO.out g off e)
  have hs1 := hb.size
  have hs2 : w2.heap.size = w1.heap.size := by rw [← ew]; simp
  have hBt : ButL [bAt, bFl, bM] W w2 := by rw [← ew]; exact (ButL.of hb).trans (ButL.set _ _ _ (by simp))
  clear x1 hb c1 c2 c3 c4 bt M1
  go_upto_region 1 with (fail)
  clear ew q1 d1 g1
  have c0 := rS.cell 0 _ rfl
  have c1 := rY.cell 0 _ rfl
  have c2 := rA.cell 0 _ rfl
  have c3 := rG.cell 0 _ rfl
  have c4 := rW.cell 0 _ rfl
  have hb0 : Below w2.heap.size w2 (w2.alloc (.cells #[.bool b, .bool true] 71)) := (by repeat' (first | (with_reducible exact Below.refl _ _) | (with_reducible assumption) | (with_reducible refine below_alloc ?_ _ ?_) | (with_reducible refine below_set _ ?_ ?_) | (with_reducible refine Below.drew ?_) | (with_reducible refine below_dN ?_ _) | (apply below_thenA; assumption) | omega | (simp; done) | (simp; omega) | (simp [*]; done)))
  have hr : RowV (w2.alloc (.cells #[.bool b, .bool true] 71)) (some ⟨w2.heap.size, 0, none⟩) 1 2 (bools [b, true]) := by
    refine ⟨rfl, fun _ => ⟨_, 0, rfl, by simp, fun i hi => ?_⟩⟩
    have tb := Blk.new w2 #[.bool b, .bool true] 71 _ rfl
    match i, hi with
    | 0, _ => exact tb.cell 0 _ rfl
    | 1, _ => exact tb.cell 1 _ rfl
  have C2 := M2 (some ⟨w2.heap.size, 0, none⟩) _ (hx2.below hb0) hr
  have HS2 := Lib.hid hs2
  have lA := rA.lt
  have lG := rG.lt
  have lW := rW.lt
  clear M2 hr hs2
  go_wp2_with fail
  refine C2.mono ?_
  rintro e w3 ⟨a2, c2', a3, c3', rfl, y2, f2, y3, f3, hb⟩
  replace hb := hb0.trans (hb.mono hb0.size)
  have s1 := r1.below hb
  have s2 := r2.below hb
  have s3 := r3.below hb
  have d2 := s2.cell 0 _ rfl
  have d3 := s3.cell 0 _ rfl
  have g2 := s2.free 0
  have g3 := s3.free 0
  have hsz := hb0.size
  have hs2 := HS2.out
  have y1 := x1b.below hb
  have hbt3 := hBt.trans (ButL.of hb)
  have hR : SpdRel bAt bFl bM k LA LF MS B ((w3.setCell ⟨bFl, 0, none⟩ (.slice a2 k c2')).setCell ⟨bM, 0, none⟩ (.slice a3 k c3')) := by
    refine ⟨a1, c1', a2, c2', a3, c3', (s1.other n1 _ _).other n2 _ _, (s2.set 0 _).other n3 _ _, (s3.other n3.symm _ _).set 0 _, (y1.but (But.set _ _ _) ?_).but (But.set _ _ _) ?_, ?_, (y2.but (But.set _ _ _) ?_).but (But.set _ _ _) ?_, ?_, (y3.but (But.set _ _ _) ?_).but (But.set _ _ _) ?_, ?_⟩
    · intro g off e; have := f1 g off e; omega
    · intro g off e; have := f1 g off e; omega
    · intro g off e; have := f1 g off e; omega
    · intro g off e; have := f2 g off e; omega
    · intro g off e; have := f2 g off e; omega
    · intro g off e; have := f2 g off e; omega
    · intro g off e; have := f3 g off e; omega
    · intro g off e; have := f3 g off e; omega
    · intro g off e; have := f3 g off e; omega
  have hT : ButL [bAt, bFl, bM] W ((w3.setCell ⟨bFl, 0, none⟩ (.slice a2 k c2')).setCell ⟨bM, 0, none⟩ (.slice a3 k c3')) :=
    (hbt3.trans (ButL.set _ _ _ (by simp))).trans (ButL.set _ _ _ (by simp))
  have HR2 := Lib.hid hR
  have HT := Lib.hid hT
  clear hR hT hbt3 hBt hb y1 y2 y3 f1 f2 f3 s1 s2 s3 r1 r2 r3 rS rA rG rW rY hx2 x1b c0 c1 c2 c3 c4 C2 hb0
  go_wp2_with fail
  go_end0
  rw [EQ.out]
  exact ⟨rfl, HR2.out, HT.out⟩
end Go.Proofs.Ythofammjbicogaa
