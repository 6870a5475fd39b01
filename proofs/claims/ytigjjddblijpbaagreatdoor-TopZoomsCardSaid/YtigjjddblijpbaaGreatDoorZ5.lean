/-
  A walker by reckoning: append; any operation.
-/
/-
  A walker by reckoning: any operation.
-/
/-
  A walker by reckoning: regions in their order; states.
-/
/-
  Regions whose order is left open, by one claim for each operation: what it leaves, in whatever order the others come up.
-/
/-
  A walker by reckoning: regions that draw their order: what was reckoned, in plain.
-/
import Derived.Test.YtigjjddblijpbaaGreatDoorZ4
import Derived.OrdersHeld
import Derived.Deep.RegionHeld
import Derived.Below
namespace Go.Proofs.YtigjjddblijpbaaGreatDoor.Ex
open Go
set_option linter.unusedSimpArgs false
set_option linter.unusedVariables false

section
variable {V : Ev} {P : Program} {C : Cx} {E : Lb} {H : Hp} {nx : Nat} {w : World} {Y : Sy} {ρ : Operand → Option Value} {ρ' : Operand → Value} {o : Oper} {r : R}
/-- The room of a slice in memory. -/
theorem capOk_le (hH : HR V E H w) {sz : Nat} (hs : 1 ≤ sz) {a : Option Addr} {n c : Nat} {v' : Value} (h : capOk H sz (.slice a n c) = true) (hv : conc V.Y E (.slice a n c) = some v') : ∃ a' c', v' = .slice a' n c' ∧ n ≤ c' ∧ (a = none → a' = none) := by
  obtain _ | ⟨l, off, _ | s⟩ := a
  · cases hv
    exact ⟨_, _, rfl, Nat.le_of_ble_eq_true h, fun _ => rfl⟩
  · obtain ⟨p, hp, rfl⟩ := conc_sl_inv hv
    exact ⟨_, _, rfl, Nat.le_of_ble_eq_true h, fun h => by cases h⟩
  · obtain ⟨p, hp, rfl⟩ := conc_sr_inv hv
    refine ⟨_, _, rfl, ?_, fun h => by cases h⟩
    simp only [capOk] at h
    split at h
    · rename_i cs T z hg
      simp only [Bool.and_eq_true] at h
      obtain rfl := Nat.eq_of_beq_eq_true h.1
      have hle := Nat.le_of_ble_eq_true h.2
      obtain ⟨q, hq, cs', rest, hc, hb, hz, hm⟩ := hH.has _ _ hg
      rw [hp] at hq; cases hq
      have e1 := concL_len hc
      have : n * z ≤ p.2 * z := by
        rw [← hz]; simp; omega
      exact Nat.le_of_mul_le_mul_right this (by omega)
    · cases h
theorem opSlice_ok {T : Nat} {x : Operand} {lo hi mx : Option Operand} (hH : HR V E H w) (ho : o.op = .slice T x lo hi mx) (hr : ∀ x, x ∈ o.op.operands → ∀ v, ρ x = some v → conc V.Y E v = some (ρ' x)) (h : opSlice P ρ H T x lo hi mx = some r) : OpOK V P ρ' o E H nx w r := by
  have h1 := hr x (by simp [ho, Op.operands])
  have hlo : OptR V.Y E (lo.map ρ) (lo.map ρ') := optR (fun y hy => hr y (by simp [ho, Op.operands, hy]))
  have hhi : OptR V.Y E (hi.map ρ) (hi.map ρ') := optR (fun y hy => hr y (by simp [ho, Op.operands, hy]))
  have hmx : OptR V.Y E (mx.map ρ) (mx.map ρ') := optR (fun y hy => hr y (by simp [ho, Op.operands, hy]))
  have hex : (execOp ρ' o) = (do pure (.value (← Instr.sliceAt T (ρ' x) (lo.map ρ') (hi.map ρ') (mx.map ρ')))) := by simp only [execOp, ho]
  unfold opSlice at h
  split at h
  · rename_i v hx
    have hx := h1 _ hx
    split at h
    · rename_i u hv
      cases h
      unfold sliceV at hv
      split at hv
      · rename_i e hu
        have run : ∀ (ti : TypeInfo) (a : Option Addr) (n c' l h m : Nat), P.info? e = some ti → ρ' x = .slice a n c' → (Instr.sliceBounds true n c' (lo.map ρ') (hi.map ρ') (mx.map ρ')).run P w = .ok (l, h, m) w →
            (execOp ρ' o).run P w = .ok (.value (.slice (if m = l then a else a.map (·.add (l * ti.size))) (h - l) (m - l))) w := by
          intro ti a n c' l h m hti hxe hb
          rw [hex]
          simp only [Instr.sliceAt, Instr.slice, Sem.run_bind, run_underlying hu, Result.andThen_ok, hxe, hb, run_sizeOf1 hti, Sem.run_pure]
        split at hv
        · rename_i sz n c hsz _
          split at hv
          · rename_i l h m hb
            cases hv
            obtain ⟨ti, hti, rfl⟩ := szOf_some hsz
            have hxe : ρ' x = .slice none n c := (Option.some.inj hx).symm
            have := run ti none n c l h m hti hxe (bounds_run hb hlo hhi hmx c rfl w)
            refine ⟨.slice none (h - l) (m - l), rfl, ?_⟩
            rw [this]
            simp
          · cases hv
        · rename_i sz b off n c hsz _
          split at hv
          · rename_i l h m hb
            obtain ⟨ti, hti, rfl⟩ := szOf_some hsz
            obtain ⟨p, hp, hpe⟩ := conc_sl_inv hx
            have hrun := run ti _ n c l h m hti hpe (bounds_run hb hlo hhi hmx c rfl w)
            split at hv
            · rename_i hm
              cases hv
              have hm := Nat.eq_of_beq_eq_true hm
              refine ⟨_, conc_sl hp, ?_⟩
              rw [hrun, if_pos hm]
            · rename_i hm
              cases hv
              rw [nbeq] at hm
              have hm := of_decide_eq_false hm
              refine ⟨_, conc_sl hp, ?_⟩
              rw [hrun, if_neg hm]
              simp only [Option.map_some, Addr.add_mid]
          · cases hv
        · rename_i sz b off s n c hsz _
          split at hv
          · rename_i h hcap hb
            cases hv
            obtain ⟨ti, hti, rfl⟩ := szOf_some hsz
            obtain ⟨p, hp, hpe⟩ := conc_sr_inv hx
            simp only [Bool.and_eq_true] at hcap
            obtain ⟨a', c', e1, hle, _⟩ := capOk_le hH (Nat.le_of_ble_eq_true hcap.2) hcap.1 hx
            rw [hpe] at e1
            injection e1 with e1 _ e2
            have hrun := run ti _ n p.2 0 h p.2 hti hpe (bounds_run hb hlo hhi hmx p.2 (by simp only; omega) w)
            refine ⟨_, conc_sr hp, ?_⟩
            rw [hrun]
            simp only [Nat.zero_mul, Nat.sub_zero]
            congr 3
            split
            · rfl
            · simp only [Option.map_some, Addr.add_mid, Nat.add_zero]
          · cases hv
        · cases hv
      · cases hv
    · cases h
  · cases h
theorem dropL_get : ∀ (ls : List Nat) (H : Hp) (l : Nat) (ao : AO), (dropL H ls).get l = some ao → l ∉ ls ∧ H.get l = some ao
  | [], H, l, ao, h => ⟨by simp, h⟩
  | k :: ls, H, l, ao, h => by
    obtain ⟨h1, h2⟩ := dropL_get ls _ l ao h
    rcases Tr.get_set _ _ _ _ _ _ h2 with ⟨rfl, e⟩ | ⟨h3, h4⟩
    · cases e
    · exact ⟨by simp [h3, h1], h4⟩
theorem behind_spec (hH : HR V E H w) {x : Value} {x' : Value} {n : Nat} {cs : List Value} (h : behind H x n = some cs) (hx : conc V.Y E x = some x') :
    ∃ p off m c cs', x' = .slice (some ⟨p, off, none⟩) m c ∧ concL V.Y E cs = some cs' ∧ cs'.length = n ∧ ∀ j u, cs'[j]? = some u → w.cell? ((⟨p, off, none⟩ : Addr).add j) = some u := by
  unfold behind at h
  split at h
  · rename_i l off sp m c
    have key : ∃ p c', E l = some p ∧ x' = .slice (some ⟨p.1, off, none⟩) m c' := by
      cases sp with
      | none => obtain ⟨p, hp, he⟩ := conc_sl_inv hx; exact ⟨p, _, hp, he⟩
      | some s => obtain ⟨p, hp, he⟩ := conc_sr_inv hx; exact ⟨p, _, hp, he⟩
    obtain ⟨p, c', hp, he⟩ := key
    have fin : ∀ (l0 l0' rest : List Value) (T : Nat), takeX n (dropX off l0) = some cs → concL V.Y E l0 = some l0' → w.heap[p.1]? = some (.cells ⟨l0' ++ rest⟩ T (0, 0)) → ∃ q off' m' c cs', x' = .slice (some ⟨q, off', none⟩) m' c ∧ concL V.Y E cs = some cs' ∧ cs'.length = n ∧ ∀ j u, cs'[j]? = some u → w.cell? ((⟨q, off', none⟩ : Addr).add j) = some u := by
      intro l0 l0' rest T ht hl hb
      obtain ⟨rfl, hn⟩ := takeX_eq _ _ _ ht
      rw [dropX_eq] at hn ⊢
      have hc := concL_take n (concL_drop off hl)
      refine ⟨p.1, off, m, c', _, he, hc, ?_, fun j u hj => ?_⟩
      · have e1 := concL_len hc
        rw [e1]
        simp at hn ⊢
        omega
      · rw [Addr.add_mid]
        rw [List.getElem?_take] at hj
        split at hj
        · rw [List.getElem?_drop] at hj
          exact cell_c hb _ u (by rw [List.getElem?_append_left (by rcases Nat.lt_or_ge (off + j) l0'.length with h | h; exact h; rw [List.getElem?_eq_none h] at hj; cases hj)]; exact hj)
        · cases hj
    split at h
    · rename_i l0 T hg
      obtain ⟨q, hq, l0', hl, hb⟩ := hH.has _ _ hg
      rw [hp] at hq; cases hq
      exact fin l0 l0' [] T h hl (by simpa using hb)
    · rename_i l0 T z hg
      obtain ⟨q, hq, l0', rest, hl, hb, _⟩ := hH.has _ _ hg
      rw [hp] at hq; cases hq
      exact fin l0 l0' rest T h hl hb
    · cases h
  · cases h
/-- A slice that owns its row, as it is. -/
def OwnS (V : Ev) (E : Lb) (H : Hp) (w : World) (T sz : Nat) (s' : Value) (n : Nat) (xs : List Value) (dr : List Nat) : Prop :=
  (s' = .slice none 0 0 ∧ n = 0 ∧ xs = [] ∧ dr = []) ∨
  (∃ l p cap cur ao xs', dr = [l] ∧ E l = some p ∧ H.get l = some ao ∧ s' = .slice (some ⟨p.1, 0, none⟩) n cap ∧ w.heap[p.1]? = some (.cells cur T (0, 0)) ∧ n ≤ cap ∧ cap ≤ maxLen ∧ cur.size = cap * sz ∧ concL V.Y E xs = some xs' ∧ cur.toList.take (n * sz) = xs' ∧ xs'.length = n * sz)
theorem own_spec (hH : HR V E H w) {T sz : Nat} (hs : 1 ≤ sz) {s s' : Value} {n : Nat} {xs : List Value} {dr : List Nat} (h : ownL H T sz s = some (n, xs, dr)) (hx : conc V.Y E s = some s') : OwnS V E H w T sz s' n xs dr := by
  unfold ownL at h
  split at h
  · split at h
    · rename_i hg
      cases h
      simp only [Bool.and_eq_true] at hg
      obtain rfl := Nat.eq_of_beq_eq_true hg.1
      obtain rfl := Nat.eq_of_beq_eq_true hg.2
      cases hx
      exact .inl ⟨rfl, rfl, rfl, rfl⟩
    · cases h
  · rename_i l m c
    split at h
    · rename_i cs T' hg
      split at h
      · rename_i hcond
        simp only [Bool.and_eq_true, nbeq, nble, decide_eq_true_eq] at hcond
        obtain ⟨⟨⟨rfl, hlen⟩, hnc⟩, hc5⟩ := hcond
        split at h
        · rename_i ys ht
          cases h
          obtain ⟨rfl, hle⟩ := takeX_eq _ _ _ ht
          obtain ⟨p, hp, hpe⟩ := conc_sl_inv hx
          obtain ⟨q, hq, cs', hc, hb⟩ := hH.has _ _ hg
          rw [hp] at hq; cases hq
          have e1 := concL_len hc
          refine .inr ⟨l, p, c, _, _, cs'.take (n * sz), rfl, hp, hg, hpe, hb, hnc, by simp only [maxLen]; omega, by simp; omega, concL_take _ hc, rfl, by simp; omega⟩
        · cases h
      · cases h
    · cases h
  · rename_i l sp m c
    split at h
    · rename_i cs T' z hg
      split at h
      · rename_i hcond
        simp only [Bool.and_eq_true, nbeq, decide_eq_true_eq] at hcond
        obtain ⟨rfl, rfl⟩ := hcond
        split at h
        · rename_i ys ht
          cases h
          obtain ⟨rfl, hle⟩ := takeX_eq _ _ _ ht
          obtain ⟨p, hp, hpe⟩ := conc_sr_inv hx
          obtain ⟨q, hq, cs', rest, hc, hb, hz, hm⟩ := hH.has _ _ hg
          rw [hp] at hq; cases hq
          have e1 := concL_len hc
          have hcap : n * z ≤ p.2 * z := by rw [← hz]; simp; omega
          refine .inr ⟨l, p, p.2, _, _, cs'.take (n * z), rfl, hp, hg, hpe, hb, Nat.le_of_mul_le_mul_right hcap (by omega), hm, hz, concL_take _ hc, ?_, by simp; omega⟩
          simp only
          rw [List.take_append_of_le_length (by omega)]
        · cases h
      · cases h
    · cases h
  · cases h
/-- A row that has grown, in its place or at a new one. -/
theorem Step.grown (hH : HR V E H w) (hn : E nx = none) {T sz n : Nat} {s' : Value} {xs : List Value} {dr : List Nat} (ho : OwnS V E H w T sz s' n xs dr) (hdr : ∀ l, l ∈ dr → l < nx) {W : World} {g cap : Nat} {cur : Array Value} {l : List Value} {l' : List Value}
    (hg : g = w.heap.size ∨ ∃ c, s' = .slice (some ⟨g, 0, none⟩) n c) (hb : W.heap[g]? = some (.cells cur T (0, 0))) (hcs : cur.size = cap * sz) (hcm : cap ≤ maxLen) (hl : concL V.Y E l = some l') (htake : cur.toList.take l'.length = l')
    (hos : W.os = w.os) (htp : W.tape = w.tape) (hou : W.output = w.output) (hsz : w.heap.size ≤ W.heap.size) (hblk : ∀ b, b < w.heap.size → (∀ c, s' ≠ .slice (some ⟨b, 0, none⟩) n c) → W.heap[b]? = w.heap[b]?) :
    Step V E H nx w (upd E nx (g, cap)) (Tr.set D (dropL H dr) nx (some (.r l T sz))) (nx + 1) dr W := by
  have hx := upd_ext (g, cap) hn
  have hlt : ∀ l o p, H.get l = some o → E l = some p → p.1 < w.heap.size := fun l o p h1 h2 => by
    obtain ⟨q, h3, h4⟩ := hH.has l o h1
    rw [h2] at h3; cases h3
    exact h4.lt
  have hne : ∀ l o, H.get l = some o → l ≠ nx := fun l o hl e => by subst e; exact get_none hH hn o hl
  -- the block of the row that stood
  have hold : ∀ b c, s' = .slice (some ⟨b, 0, none⟩) n c → ∃ k p ao, dr = [k] ∧ E k = some p ∧ p.1 = b ∧ H.get k = some ao := by
    intro b c hs
    rcases ho with ⟨h1, _⟩ | ⟨k, p, cp, cu, ao, xs', h1, h2, h3, h4, _⟩
    · rw [hs] at h1; cases h1
    · rw [hs] at h4
      injection h4 with h4 _ _
      injection h4 with h4
      injection h4 with h4 _ _
      exact ⟨k, p, ao, h1, h2, h4.symm, h3⟩
  have keep : ∀ k o p, H.get k = some o → k ∉ dr → E k = some p → W.heap[p.1]? = w.heap[p.1]? := by
    intro k o p hk hd hp
    refine hblk p.1 (hlt k o p hk hp) (fun c hs => ?_)
    obtain ⟨k', p', ao, e1, e2, e3, e4⟩ := hold p.1 c hs
    have := hH.inj k k' o ao p p' hk e4 hp e2 e3.symm
    subst this
    exact hd (by rw [e1]; simp)
  have gne : ∀ k o p, H.get k = some o → k ∉ dr → E k = some p → p.1 ≠ g := by
    intro k o p hk hd hp e
    rcases hg with h1 | ⟨c, hs⟩
    · have := hlt k o p hk hp; omega
    · obtain ⟨k', p', ao, e1, e2, e3, e4⟩ := hold g c hs
      have := hH.inj k k' o ao p p' hk e4 hp e2 (e.trans e3.symm)
      subst this
      exact hd (by rw [e1]; simp)
  have glow : V.g0 ≤ g := by
    rcases hg with h1 | ⟨c, hs⟩
    · rw [h1]; exact hH.sz
    · obtain ⟨k', p', ao, e1, e2, e3, e4⟩ := hold g c hs
      rw [← e3]
      exact hH.low k' ao p' e4 e2
  refine ⟨hx, fun k hk => upd_ne E _ (by omega), (by omega), ⟨fun k o hk => ?_, fun k k' o1 o2 p p' h1 h2 h3 h4 h5 => ?_, fun k o p h1 h2 => ?_, ?_, ?_⟩, fun k hk _ => ?_, fun b hb' hno => ?_, fun k p h1 h2 h3 => ?_, fun k o hk hd hb' => ?_, hos, htp, hou, hsz⟩
  · rcases Tr.get_set _ _ _ _ _ _ hk with ⟨rfl, h1⟩ | ⟨h1, h2⟩
    · cases h1
      refine ⟨_, upd_self _ _ _, l', cur.toList.drop l'.length, concL_ext hx _ _ hl, ?_, ?_, hcm⟩
      · have e : cur.toList = l' ++ cur.toList.drop l'.length := by
          conv => lhs; rw [← List.take_append_drop l'.length cur.toList, htake]
        rw [hb]
        congr 2
        exact Array.ext' e
      · have := congrArg List.length htake
        simp at this ⊢
        omega
    · obtain ⟨h3, h4⟩ := dropL_get _ _ _ _ h2
      obtain ⟨p, h5, h6⟩ := hH.has k o h4
      exact ⟨p, by rw [upd_ne E _ h1]; exact h5, (h6.ext hx).of_block (keep k o p h4 h3 h5)⟩
  · rcases Tr.get_set _ _ _ _ _ _ h1 with ⟨rfl, _⟩ | ⟨h6, h7⟩ <;> rcases Tr.get_set _ _ _ _ _ _ h2 with ⟨rfl, _⟩ | ⟨h8, h9⟩
    · rfl
    · rw [upd_self] at h3; cases h3
      rw [upd_ne E _ h8] at h4
      obtain ⟨i1, i2⟩ := dropL_get _ _ _ _ h9
      exact absurd h5.symm (gne k' o2 p' i2 i1 h4)
    · rw [upd_self] at h4; cases h4
      rw [upd_ne E _ h6] at h3
      obtain ⟨i1, i2⟩ := dropL_get _ _ _ _ h7
      exact absurd h5 (gne k o1 p i2 i1 h3)
    · rw [upd_ne E _ h6] at h3
      rw [upd_ne E _ h8] at h4
      exact hH.inj k k' o1 o2 p p' (dropL_get _ _ _ _ h7).2 (dropL_get _ _ _ _ h9).2 h3 h4 h5
  · rcases Tr.get_set _ _ _ _ _ _ h1 with ⟨rfl, _⟩ | ⟨h6, h7⟩
    · rw [upd_self] at h2; cases h2
      exact glow
    · rw [upd_ne E _ h6] at h2
      exact hH.low k o p (dropL_get _ _ _ _ h7).2 h2
  · exact Nat.le_trans hH.sz hsz
  · refine V.hK _ _ hH.k (fun b hlow => hblk b (Nat.lt_of_lt_of_le hlow hH.sz) (fun c hs => ?_))
    obtain ⟨k', p', ao, e1, e2, e3, e4⟩ := hold b c hs
    have := hH.low k' ao p' e4 e2
    omega
  · rcases ho with ⟨_, _, _, h1⟩ | ⟨k', p, cp, cu, ao, xs', h1, h2, h3, h4, _⟩
    · rw [h1] at hk; cases hk
    · rw [h1] at hk; simp at hk; subst hk; exact ⟨ao, h3⟩
  · refine hblk b hb' (fun c hs => ?_)
    obtain ⟨k', p', ao, e1, e2, e3, e4⟩ := hold b c hs
    exact hno k' p' (by rw [e1]; simp) (hdr k' (by rw [e1]; simp)) e2 e3
  · obtain rfl : k = nx := by omega
    rw [upd_self] at h3; cases h3
    rcases hg with h1 | ⟨c, hs⟩
    · exact .inl (by simp only; omega)
    · obtain ⟨k', p', ao, e1, e2, e3, e4⟩ := hold g c hs
      exact .inr ⟨k', p', by rw [e1]; simp, hdr k' (by rw [e1]; simp), e2, e3⟩
  · rcases Tr.get_set _ _ _ _ _ _ hk with ⟨rfl, _⟩ | ⟨_, h2⟩
    · omega
    · exact (dropL_get _ _ _ _ h2).2
/-- append to a row of one's own. -/
theorem append_run {t ty e : Nat} {i : TypeInfo} {z : Value} (ht : P.underlying t = some (.slice e)) (hi : P.info? e = some i) (hz : i.zero = some z) (hzs : z.cells.size = i.size) (hsp : 1 ≤ i.size) {s' : Value} {n : Nat} {xs : List Value} {dr : List Nat}
    (ho : OwnS V E H w e i.size s' n xs dr) (a : Addr) (m c : Nat) (news : List Value) (hl : news.length = m * i.size) (hnews : ∀ j u, news[j]? = some u → w.cell? (a.add j) = some u) (h1 : ∀ u ∈ news, u.oneCell' = true) (hm : 1 ≤ m) (hsm : n + m ≤ 100000) (hby : i.bytes ≤ 100000)
    {xs' : List Value} (hxs : concL V.Y E xs = some xs') :
    ∃ g cap cur W, (Builtin.append_ #[t, t] ty #[s', .slice (some a) m c]).run P w = .ok (.slice (some ⟨g, 0, none⟩) (n + m) cap) W ∧ (g = w.heap.size ∨ ∃ c, s' = .slice (some ⟨g, 0, none⟩) n c) ∧ W.heap[g]? = some (.cells cur e (0, 0)) ∧ cur.size = cap * i.size ∧ cap ≤ maxLen ∧
      cur.toList.take (xs' ++ news).length = xs' ++ news ∧ W.os = w.os ∧ W.tape = w.tape ∧ W.output = w.output ∧ w.heap.size ≤ W.heap.size ∧ (∀ b, b < w.heap.size → (∀ c, s' ≠ .slice (some ⟨b, 0, none⟩) n c) → W.heap[b]? = w.heap[b]?) := by
  have hbytes : (n + m) * i.bytes ≤ 100000 * 100000 := Nat.mul_le_mul hsm hby
  have zc : ∀ k, (Builtin.zeroCells z.cells k).size = k * i.size := fun k => by rw [size_zeroCells, hzs]
  rcases ho with ⟨rfl, rfl, rfl, rfl⟩ | ⟨l, p, cap, cur, ao, ys, rfl, hp, hg, rfl, hb, hnc, hcm, hcs, hys, htk, hlen⟩
  · cases hxs
    have hr := run_append_nil (P := P) w t ty e i z ht hi hz a m c news hl hnews (by omega) (by omega) (by simp only [Nat.zero_add] at hbytes; omega)
    refine ⟨_, _, _, _, by rw [Nat.zero_add]; exact hr, .inl rfl, heap_alloc_new w.drew _, ?_, ?_, ?_, rfl, rfl, rfl, by simp, fun b hb _ => alloc_old w.drew _ b hb⟩
    · have hge := grownCap_ge w m 0 e
      simp only [Array.size_append, List.size_toArray, zc, hl, ← Nat.add_mul]
      congr 1
      omega
    · exact grownCap_le_maxLen w m 0 e (by simp only [maxLen]; omega)
    · simp
  · rw [hys] at hxs; cases hxs
    have hcell : ∀ j u, xs'[j]? = some u → w.cell? ((⟨p.1, 0, none⟩ : Addr).add j) = some u := by
      intro j u hj
      rw [Addr.add_mid, Nat.zero_add]
      rw [← htk, List.getElem?_take] at hj
      split at hj
      · simp [World.cell?, hb]; simpa using hj
      · cases hj
    by_cases hroom : n + m ≤ cap
    · have hfit : n * i.size + news.length ≤ cur.size := by rw [hl, hcs, ← Nat.add_mul]; exact Nat.mul_le_mul_right _ hroom
      have hr := run_append_room (P := P) w t ty e i ht hi p.1 n cap cur hb a m c news hl hnews h1 hroom hfit
      refine ⟨_, _, _, _, hr, .inr ⟨cap, rfl⟩, setRow_heap w p.1 cur _ e _ hb, ?_, hcm, ?_, by simp, rfl, rfl, by simp, fun b _ hne => setRow_other w p.1 b _ (fun e => hne cap (by rw [e]))⟩
      · simp only [List.size_toArray, List.length_append, List.length_take, List.length_drop, Array.length_toList]
        omega
      · rw [htk]
        simp only [List.length_append]
        rw [← List.length_append]
        exact List.take_left
    · have hr := run_append_grow (P := P) w t ty e i z ht hi hz ⟨p.1, 0, none⟩ n cap xs' hlen hcell a m c news hl hnews (by omega) (by omega) (growslice_fits (by omega) (by omega))
      refine ⟨_, _, _, _, hr, .inl rfl, heap_alloc_new w.drew _, ?_, ?_, ?_, rfl, rfl, rfl, by simp, fun b hb _ => alloc_old w.drew _ b hb⟩
      · have hge := grownCap_ge w (n + m) cap e
        simp only [Array.size_append, List.size_toArray, zc, hl, hlen, ← Nat.add_mul]
        congr 1
        omega
      · exact grownCap_le_maxLen w (n + m) cap e (by simp only [maxLen]; omega)
      · simp only [Array.toList_append, List.append_assoc]
        rw [← List.append_assoc]
        exact List.take_left
theorem ltAll_spec {nx : Nat} : ∀ {ls : List Nat}, ltAll nx ls = true → ∀ l, l ∈ ls → l < nx
  | [], _, l, h => by cases h
  | k :: ls, h, l, hl => by
    unfold ltAll at h
    split at h
    · rename_i h1
      rw [nblt] at h1
      cases hl with
      | head => exact of_decide_eq_true h1
      | tail _ hl => exact ltAll_spec h l hl
    · cases h
theorem isIntT_spec {T : Nat} (h : isIntT P T = true) : ∃ k, P.underlying T = some (.int k) := by
  unfold isIntT at h
  split at h
  · exact ⟨_, ‹_›⟩
  · cases h
theorem own_conc {T sz n : Nat} {s' : Value} {xs : List Value} {dr : List Nat} (h : OwnS V E H w T sz s' n xs dr) : ∃ xs', concL V.Y E xs = some xs' := by
  rcases h with ⟨_, _, rfl, _⟩ | ⟨_, _, _, _, _, xs', _, _, _, _, _, _, _, _, h, _⟩
  · exact ⟨[], rfl⟩
  · exact ⟨xs', h⟩
/-- append. -/
theorem appendV_ok {T T' ty : Nat} {s x s' x' : Value} (hH : HR V E H w) (hs : conc V.Y E s = some s') (hx : conc V.Y E x = some x') (h : appendV P H nx T T' s x = some r) :
    (∃ y, r = .v y ∧ ∃ y', conc V.Y E y = some y' ∧ (Builtin.append_ #[T, T'] ty #[s', x']).run P w = .ok y' w) ∨
    (∃ y H' n' wr, r = .s y H' n' wr ∧ ((∀ l, nx ≤ l → l < n' → E l = none) → ∃ y' w' E', (Builtin.append_ #[T, T'] ty #[s', x']).run P w = .ok y' w' ∧ conc V.Y E' y = some y' ∧ Step V E H nx w E' H' n' wr w')) := by
  unfold appendV at h
  split at h
  · rename_i e ht
    split at h
    · cases h
    · rename_i i hi
      split at h
      · cases h
      · rename_i z hz
        split at h
        · cases h
        · rename_i hg
          simp only [Bool.and_eq_true, nbeq, nble, decide_eq_true_eq] at hg
          obtain ⟨⟨hzl, hsp⟩, hby⟩ := hg
          have hzs : z.cells.size = i.size := by rw [cells_eq]; simpa using hzl
          split at h
          · rename_i hint
            obtain ⟨kn, htn⟩ := isIntT_spec hint
            split at h
            · rename_i k m
              split at h
              · cases h
              · rename_i hm
                simp only [Bool.and_eq_true, nble, decide_eq_true_eq] at hm
                split at h
                · split at h
                  · cases h
                  · rename_i hm5
                    cases h
                    rw [nble] at hm5
                    have hm5 := of_decide_eq_true hm5
                    cases hs
                    have hxe := conc_int hx
                    subst hxe
                    refine .inr ⟨_, _, _, _, rfl, fun hn => ?_⟩
                    have hn := hn nx (Nat.le_refl _) (by omega)
                    have hb5 : m * i.bytes ≤ 100000 * 100000 := Nat.mul_le_mul hm5 hby
                    have hr := Lib.run_append_nil_zeros (P := P) w T T' ty e i z k kn ht htn hi hz m (by omega) (by omega) (by omega) (by omega)
                    have hge := grownCap_ge w m 0 e
                    have zc : ∀ k, (Builtin.zeroCells z.cells k).size = k * i.size := fun k => by rw [size_zeroCells, hzs]
                    have hzz : Builtin.zeroCells z.cells m = ⟨repL m (cellsL z)⟩ := by
                      unfold Builtin.zeroCells
                      rw [cells_eq]
                      exact rep_array m _ (by simp)
                    refine ⟨_, _, upd E nx (w.heap.size, grownCap w m 0 e), hr, ?_, Step.grown (n := 0) (xs := []) (dr := []) (cap := grownCap w m 0 e) hH hn (.inl ⟨rfl, rfl, rfl, rfl⟩) (fun l hl => by cases hl) (.inl rfl) (heap_alloc_new w.drew _) ?_ ?_ (rep_conc (litL_conc hm.1) m) ?_ rfl rfl rfl (by simp) (fun b hb _ => alloc_old w.drew _ b hb)⟩
                    · exact conc_sr (upd_self _ _ _)
                    · simp only [Array.size_append, zc, ← Nat.add_mul]
                      congr 1
                      omega
                    · exact grownCap_le_maxLen w m 0 e (by simp only [maxLen]; omega)
                    · rw [hzz]
                      simp
                · cases h
            · cases h
          · split at h
            · cases h
            · rename_i hT
              obtain rfl := Nat.eq_of_beq_eq_true hT
              split at h
              · split at h
                · rename_i hcap
                  cases h
                  cases hx
                  cases s with
                  | slice a n c =>
                    obtain ⟨a', c', rfl, hle, _⟩ := capOk_le hH hsp hcap hs
                    refine .inl ⟨_, rfl, _, hs, ?_⟩
                    refine run_append_nothing w T T ty e i ht hi a' n c' hle _ ⟨.inl ⟨e, ht⟩, fun _ => rfl, ?_, ?_, by simp, by simp⟩
                    · simp [Builtin.firstCells]
                    · simp [Builtin.firstCells]
                  | _ => simp [capOk] at hcap
                · cases h
              · rename_i a m c
                split at h
                · cases h
                · rename_i n xs dr hown
                  split at h
                  · cases h
                  · rename_i news hbh
                    split at h
                    · cases h
                    · rename_i hcond
                      cases h
                      simp only [Bool.and_eq_true, nble, decide_eq_true_eq] at hcond
                      obtain ⟨⟨⟨hone, hm1⟩, hnm⟩, hdr⟩ := hcond
                      have ho := own_spec hH hsp hown hs
                      obtain ⟨xs', hxs⟩ := own_conc ho
                      obtain ⟨p, off, m', c', news', rfl, hnw, hnl, hcells⟩ := behind_spec hH hbh hx
                      have hm' : m' = m := by
                        obtain ⟨l, o', _ | sp⟩ := a
                        · obtain ⟨q, _, e1⟩ := conc_sl_inv hx; injection e1 with _ e1 _
                        · obtain ⟨q, _, e1⟩ := conc_sr_inv hx; injection e1 with _ e1 _
                      subst hm'
                      refine .inr ⟨_, _, _, _, rfl, fun hn => ?_⟩
                      have hn := hn nx (Nat.le_refl _) (by omega)
                      obtain ⟨g, cap, cur, W, r1, r2, r3, r4, r5, r6, r7, r8, r9, r10, r11⟩ := append_run (ty := ty) ht hi hz hzs hsp ho ⟨p, off, none⟩ m' c' news' hnl hcells (oneL_conc hnw hone) hm1 hnm hby hxs
                      exact ⟨_, W, _, r1, conc_sr (upd_self _ _ _), Step.grown hH hn ho (ltAll_spec hdr) r2 r3 r4 r5 (concL_app hxs hnw) r6 r7 r8 r9 r10 r11⟩
              · cases h
  · cases h
end
end Go.Proofs.YtigjjddblijpbaaGreatDoor.Ex
namespace Go.Proofs.YtigjjddblijpbaaGreatDoor.Ex
open Go
set_option linter.unusedSimpArgs false
set_option linter.unusedVariables false

section
variable {V : Ev} {P : Program} {C : Cx} {E : Lb} {H : Hp} {nx : Nat} {w : World} {ρ : Operand → Option Value} {ρ' : Operand → Value} {o : Oper} {r : R}
theorem call_builtin {c : Call} {b : Builtin} (ho : o.op = .call c) (hc : c.callee = .builtin b) : ∃ consts, (execOp ρ' o).run P w = (builtin b c.argTypes o.type consts ⟨c.args.toList.map ρ'⟩).run P w := by
  have e : c.args.map ρ' = ⟨c.args.toList.map ρ'⟩ := by apply Array.ext'; simp
  refine ⟨c.args.map fun | .const _ => true | _ => false, ?_⟩
  simp only [execOp, ho, Sem.run_bind, resolve, hc, Sem.run_pure, Result.andThen_ok, invoke, e]
  try rfl
theorem toList_two {α : Type} {a : Array α} {x y : α} (h : a.toList = [x, y]) : a = #[x, y] := by apply Array.ext'; simpa using h
theorem toList_head {α : Type} {a : Array α} {x : α} {l : List α} (h : a.toList = x :: l) : a[0]? = some x := by
  rw [← Array.getElem?_toList, h]; rfl
theorem opCall_ok {c : Call} (hC : CxOK C P V.Y) (hH : HR V E H w) (ho : o.op = .call c) (hr : ∀ x, x ∈ o.op.operands → ∀ v, ρ x = some v → conc V.Y E v = some (ρ' x)) (h : opCall C P ρ H nx c = some r) : OpOK V P ρ' o E H nx w r := by
  unfold opCall at h
  split at h
  · rename_i b hc
    split at h
    · rename_i args hargs
      have hcl := vals_conc (V := V) (E := E) (ρ' := ρ') hargs (fun x hx => hr x (by simp [ho, Op.operands, Call.operands, hc]; simpa using hx))
      obtain ⟨consts, hex⟩ := call_builtin (P := P) (w := w) (ρ' := ρ') ho hc
      unfold builtinV at h
      split at h
      · split at h
        · rename_i T T' s x hts
          obtain ⟨s', t1, h1, h2, e1⟩ := concL_cons hcl
          obtain ⟨x', t2, h3, h4, rfl⟩ := concL_cons h2
          cases h4
          rw [e1, toList_two hts] at hex
          rcases appendV_ok (ty := o.type) hH h1 h3 h with ⟨y, rfl, y', k1, k2⟩ | ⟨y, H', n', wr, rfl, k⟩
          · exact ⟨y', k1, by rw [hex]; simp only [builtin, Sem.run_bind]; rw [k2]; rfl⟩
          · intro hn
            obtain ⟨y', w', E', k1, k2, k3⟩ := k hn
            exact ⟨y', w', E', .inl (by rw [hex]; simp only [builtin, Sem.run_bind]; rw [k1]; rfl), k2, k3⟩
        · cases h
      · split at h
        · rename_i T ts x xs hts
          obtain ⟨x', t1, h1, h2, e1⟩ := concL_cons hcl
          rw [e1] at hex
          have ht0 := toList_head hts
          have hl : ∀ n : Int, (Builtin.len_ c.argTypes o.type ⟨x' :: t1⟩).run P w = .ok (.int .i64 n) w → (execOp ρ' o).run P w = .ok (.value (.int .i64 n)) w := fun n hn => by
            rw [hex]; simp only [builtin, Sem.run_bind]; rw [hn]; rfl
          split at h
          · rename_i n e hu
            cases h
            exact ⟨_, rfl, hl _ (by simp [Builtin.len_, ht0, run_underlying hu, goInt])⟩
          · rename_i e a n cp hu
            cases h
            have key : ∃ a' c', x' = .slice a' n c' := by
              obtain _ | ⟨l, off, _ | s⟩ := a
              · cases h1; exact ⟨_, _, rfl⟩
              · obtain ⟨p, _, he⟩ := conc_sl_inv h1; exact ⟨_, _, he⟩
              · obtain ⟨p, _, he⟩ := conc_sr_inv h1; exact ⟨_, _, he⟩
            obtain ⟨a', c', rfl⟩ := key
            exact ⟨_, rfl, hl _ (by simp [Builtin.len_, ht0, run_underlying hu, goInt])⟩
          · rename_i K e hu
            cases h
            cases h1
            exact ⟨_, rfl, hl _ (by simp [Builtin.len_, ht0, run_underlying hu, goInt])⟩
          · rename_i K e l hu
            split at h
            · rename_i es hg
              cases h
              obtain ⟨p, hp, es', ces, cl, hb, hc, hpm, _⟩ := hH.has _ _ hg
              obtain ⟨q, hq, rfl⟩ := conc_map_inv h1
              rw [hp] at hq; cases hq
              have hlen : ∀ {es : List (Value × Value × Nat)} {ces : List MapEntry}, concM V.Y E es = some ces → ces.length = es.length := by
                intro es
                induction es with
                | nil => intro ces h; cases h; rfl
                | cons x es ih =>
                  intro ces h
                  obtain ⟨k, u, t⟩ := x
                  obtain ⟨k', u', q, ces', _, _, _, h4, rfl⟩ := concM_cons h
                  simp [ih h4]
              have e2 := hlen hc
              have e3 := hpm.length_eq
              exact ⟨_, rfl, hl _ (by simp [Builtin.len_, ht0, run_underlying hu, goInt, run_getMap hb, e3, e2])⟩
            · cases h
          · cases h
        · cases h
      · split at h
        · rename_i T ts x xs hts
          obtain ⟨x', t1, h1, h2, e1⟩ := concL_cons hcl
          rw [e1] at hex
          have ht0 := toList_head hts
          have hl : ∀ n : Int, (Builtin.cap_ c.argTypes o.type ⟨x' :: t1⟩).run P w = .ok (.int .i64 n) w → (execOp ρ' o).run P w = .ok (.value (.int .i64 n)) w := fun n hn => by
            rw [hex]; simp only [builtin, Sem.run_bind]; rw [hn]; rfl
          split at h
          · rename_i e n cp hu
            cases h
            cases h1
            exact ⟨_, rfl, hl _ (by simp [Builtin.cap_, ht0, run_underlying hu, goInt])⟩
          · rename_i e l off n cp hu
            cases h
            obtain ⟨p, _, rfl⟩ := conc_sl_inv h1
            exact ⟨_, rfl, hl _ (by simp [Builtin.cap_, ht0, run_underlying hu, goInt])⟩
          · cases h
        · cases h
      · split at h
        · rename_i x l
          obtain ⟨x', t1, h1, h2, e1⟩ := concL_cons hcl
          rw [e1] at hex
          split at h
          · rename_i v hv
            cases h
            obtain ⟨r', h3, h4⟩ := folds_run (P := P) (w := w) (Y := V.Y) (E := E) (g := Builtin.max2) (fun x y r x' y' h hx hy => max1_run hC h hx hy w) l x v x' t1 hv h1 h2
            exact ⟨r', h3, by rw [hex]; simp only [builtin, Builtin.max_, Sem.run_bind]; rw [h4]; rfl⟩
          · cases h
        · cases h
      · split at h
        · rename_i x l
          obtain ⟨x', t1, h1, h2, e1⟩ := concL_cons hcl
          rw [e1] at hex
          split at h
          · rename_i v hv
            cases h
            obtain ⟨r', h3, h4⟩ := folds_run (P := P) (w := w) (Y := V.Y) (E := E) (g := Builtin.min2) (fun x y r x' y' h hx hy => min1_run hC h hx hy w) l x v x' t1 hv h1 h2
            exact ⟨r', h3, by rw [hex]; simp only [builtin, Builtin.min_, Sem.run_bind]; rw [h4]; rfl⟩
          · cases h
        · cases h
      · cases h
    · cases h
  · rename_i f hc
    split at h
    · rename_i g cap args hf hargs
      cases h
      have hcl := vals_conc (V := V) (E := E) (ρ' := ρ') hargs (fun x hx => hr x (by simp [ho, Op.operands, Call.operands, hc]; exact .inr (by simpa using hx)))
      have hf := hr f (by simp [ho, Op.operands, Call.operands, hc]) _ hf
      obtain ⟨cap', h1, h2⟩ := conc_func_inv hf
      have e : c.args.map ρ' = ⟨c.args.toList.map ρ'⟩ := by apply Array.ext'; simp
      refine ⟨_, concL_app hcl h1, ?_⟩
      simp only [execOp, ho, Sem.run_bind, resolve, hc, h2, Deferred.ofValue, Sem.run_pure, Result.andThen_ok, invoke, e]
      congr 2
      apply Array.ext'
      simp
    · cases h
  · cases h
theorem stepOp_ok (hC : CxOK C P V.Y) (hH : HR V E H w) (hr : ∀ x, x ∈ o.op.operands → ∀ v, ρ x = some v → conc V.Y E v = some (ρ' x)) (h : stepOp C P ρ H nx o = some r) : OpOK V P ρ' o E H nx w r := by
  unfold stepOp at h
  split at h <;> rename_i ho
  · exact opMove_ok (fun ρ => by simp only [execOp, ho]) (hr _ (by simp [ho, Op.operands])) h
  · exact opMove_ok (fun ρ => by simp only [execOp, ho]) (hr _ (by simp [ho, Op.operands])) h
  · exact opPick_ok ho hr h
  · exact opAlloc_ok hH ho h
  · exact opBox_ok hH ho hr h
  · exact opBuild_ok ho hr h
  · exact opBuildSlice_ok hH ho hr h
  · exact opLoad_ok hH ho hr h
  · exact opStore_ok hH ho hr h
  · exact opNilCheck_ok ho hr h
  · exact opBinOp_ok hC ho hr h
  · exact opUnOp_ok ho hr h
  · exact opConvert_ok hC ho hr h
  · exact opMakeFunc_ok ho hr h
  · exact opMakeMap_ok hH ho h
  · exact opMakeSlice_ok hH ho hr h
  · exact opSlice_ok hH ho hr h
  · exact opFieldAddr_ok ho hr h
  · exact opField_ok ho hr h
  · exact opIndexAddr_ok ho hr h
  · exact opIndex_ok ho hr h
  · exact opLookup_ok hC hH ho hr h
  · exact update_ok hC hH (.inl ho) hr h
  · exact update_ok hC hH (.inr ho) hr h
  · exact entry_ok hC hH ho hr h
  · exact entryStore_ok hC hH ho hr h
  · exact opRange_ok hH ho hr h
  · exact opNext_ok hH ho hr h
  · exact opExtract_ok ho hr h
  · exact opCall_ok hC hH ho hr h
  · cases h
end
end Go.Proofs.YtigjjddblijpbaaGreatDoor.Ex
namespace Go.Proofs.YtigjjddblijpbaaGreatDoor.Ex
open Go
set_option linter.unusedSimpArgs false
set_option linter.unusedVariables false

/-- What calls leave is as it was reckoned. -/
def ClOK (V : Ev) (P : Program) (cl : Cl) : Prop := ∀ f args H nx v H' nx' wr, cl f args H nx = some (v, H', nx', wr) →
  nx ≤ nx' ∧ (∀ args' w, (callFunc f args').run P w = .ok (.enter f args') w) ∧
  ∀ E w args', HR V E H w → (∀ l, nx ≤ l → E l = none) → concL V.Y E args = some args' →
    Calls P f ⟨args'⟩ w fun e w' => ∃ v' E', e = .returned v' ∧ conc V.Y E' v = some v' ∧ Step V E H nx w E' H' nx' wr w'
section
variable {V : Ev} {P : Program} {C : Cx} {cl : Cl} {nt fl : Nat}
theorem appendV_le {H : Hp} {nx T T' : Nat} {s x y : Value} {H' : Hp} {n' : Nat} {wr : List Nat} (h : appendV P H nx T T' s x = some (.s y H' n' wr)) : nx ≤ n' := by
  unfold appendV at h
  repeat' split at h
  all_goals (cases h <;> omega)
theorem stepOp_le {ρ : Operand → Option Value} {H : Hp} {nx : Nat} {o : Oper} {x : Value} {H' : Hp} {n' : Nat} {wr : List Nat} (h : stepOp C P ρ H nx o = some (.s x H' n' wr)) : nx ≤ n' := by
  have hmk : ∀ {y : Value} {ao : AO}, mk H nx y ao = some (.s x H' n' wr) → nx ≤ n' := fun h => by
    unfold mk at h; cases h <;> omega
  unfold stepOp at h
  split at h
  · unfold opMove at h; split at h <;> (cases h <;> omega)
  · unfold opMove at h; split at h <;> (cases h <;> omega)
  · unfold opPick at h; repeat' split at h
    all_goals (cases h <;> omega)
  · unfold opAlloc at h; repeat' split at h
    all_goals first | exact hmk h | (cases h <;> omega)
  · unfold opBox at h; repeat' split at h
    all_goals first | exact hmk h | (cases h <;> omega)
  · unfold opBuild at h; repeat' split at h
    all_goals (cases h <;> omega)
  · unfold opBuildSlice at h; repeat' split at h
    all_goals first | exact hmk h | (cases h <;> omega)
  · unfold opLoad at h; repeat' split at h
    all_goals (cases h <;> omega)
  · unfold opStore at h; repeat' split at h
    all_goals (cases h <;> omega)
  · unfold opNilCheck at h; repeat' split at h
    all_goals (cases h <;> omega)
  · unfold opBinOp at h; repeat' split at h
    all_goals (cases h <;> omega)
  · unfold opUnOp at h; repeat' split at h
    all_goals (cases h <;> omega)
  · unfold opConvert at h; repeat' split at h
    all_goals (cases h <;> omega)
  · unfold opMakeFunc at h; repeat' split at h
    all_goals (cases h <;> omega)
  · exact hmk h
  · unfold opMakeSlice at h; repeat' split at h
    all_goals first | exact hmk h | (cases h <;> omega)
  · unfold opSlice at h; repeat' split at h
    all_goals (cases h <;> omega)
  · unfold opFieldAddr at h; repeat' split at h
    all_goals (cases h <;> omega)
  · unfold opField at h; repeat' split at h
    all_goals (cases h <;> omega)
  · unfold opIndexAddr at h; repeat' split at h
    all_goals (cases h <;> omega)
  · unfold opIndex at h; repeat' split at h
    all_goals (cases h <;> omega)
  · unfold opLookup at h; repeat' split at h
    all_goals (cases h <;> omega)
  · unfold opMapUpdate updateV at h; repeat' split at h
    all_goals (cases h <;> omega)
  · unfold opMapUpdate updateV at h; repeat' split at h
    all_goals (cases h <;> omega)
  · unfold opMapEntry entryV at h; repeat' split at h
    all_goals (cases h <;> omega)
  · unfold opEntryStore entryStoreV at h; repeat' split at h
    all_goals (cases h <;> omega)
  · unfold opRange at h; repeat' split at h
    all_goals first | exact hmk h | (cases h <;> omega)
  · unfold opNext nextV at h; repeat' split at h
    all_goals (cases h <;> omega)
  · unfold opExtract at h; repeat' split at h
    all_goals (cases h <;> omega)
  · unfold opCall at h
    split at h
    · split at h
      · unfold builtinV at h
        split at h
        · split at h
          · exact appendV_le h
          · cases h
        all_goals repeat' split at h
        all_goals (cases h <;> omega)
      · cases h
    · repeat' split at h
      all_goals (cases h <;> omega)
    · cases h
  · cases h
/-- One operation. -/
theorem evOp_ok (hC : CxOK C P V.Y) (hcl : ClOK V P cl) {ρ : Operand → Option Value} {H : Hp} {nx : Nat} {o : Oper} {v : Value} {H' : Hp} {nx' : Nat} {wr : List Nat} (h : evOp cl C P ρ H nx o = some (v, H', nx', wr)) :
    nx ≤ nx' ∧ ∀ (E : Lb) (w : World) (a : Act), HR V E H w → (∀ l, nx ≤ l → E l = none) → (∀ x, x ∈ o.op.operands → ∀ v, ρ x = some v → conc V.Y E v = some (a.eval x)) →
      ∀ (K : Act → World → Prop) (Q : Exit → Act → World → Prop), (∀ v' E' w', conc V.Y E' v = some v' → Step V E H nx w E' H' nx' wr w' → K (a.put o.dst v') w') → o.wp P a w K Q := by
  unfold evOp at h
  split at h
  · rename_i x hs
    cases h
    refine ⟨Nat.le_refl _, fun E w a hH _ hr K Q hK => ?_⟩
    obtain ⟨x', h1, h2⟩ := stepOp_ok hC hH hr hs
    unfold Oper.wp
    rw [h2]
    exact hK x' E w h1 (Step.refl hH nx)
  · rename_i x H1 n1 w1 hs
    cases h
    refine ⟨stepOp_le hs, fun E w a hH hn hr K Q hK => ?_⟩
    obtain ⟨x', w', E', h1, h2, h3⟩ := stepOp_ok hC hH hr hs (fun l h _ => hn l h)
    unfold Oper.wp
    rcases h1 with h1 | ⟨rfl, h1⟩
    · rw [h1]; exact hK x' E' w' h2 h3
    · rw [h1]; exact hK _ E' w' h2 h3
  · rename_i f args hs
    obtain ⟨h1, h2, h3⟩ := hcl _ _ _ _ _ _ _ _ h
    refine ⟨h1, fun E w a hH hn hr K Q hK => ?_⟩
    obtain ⟨args', h4, h5⟩ := stepOp_ok hC hH hr hs
    unfold Oper.wp
    rw [h5, h2]
    refine Calls.mono (h3 E w args' hH hn h4) fun e w' he => ?_
    obtain ⟨v', E', rfl, h6, h7⟩ := he
    exact hK v' E' w' h6 h7
  · cases h
/-- A state, as it is. -/
structure SR (V : Ev) (E : Lb) (st : St) (nt : Nat) (a : Act) (w : World) : Prop where
  df : a.defers = []
  sz : a.tmps.size = nt
  tm : ∀ t v, st.tm.get t = some v → ∃ v', conc V.Y E v = some v' ∧ a.tmps[t]? = some v'
  hr : HR V E st.H w
theorem ev_ok {E : Lb} {tm : Tr Value} {a : Act} (ht : ∀ t v, tm.get t = some v → ∃ v', conc V.Y E v = some v' ∧ a.tmps[t]? = some v') (x : Operand) (v : Value) (h : ev tm x = some v) : conc V.Y E v = some (a.eval x) := by
  unfold ev at h
  split at h
  · rename_i t
    obtain ⟨v', h1, h2⟩ := ht t v h
    simp [Act.eval, h2, h1]
  · split at h
    · rename_i hl
      cases h
      exact lit_conc hl
    · cases h
  · cases h
  · cases h; rfl
theorem putT_ok {E : Lb} {tm tm' : Tr Value} {a : Act} {d : Option Nat} {v v' : Value} (h : putT nt tm d v = some tm') (hs : a.tmps.size = nt) (ht : ∀ t v, tm.get t = some v → ∃ v', conc V.Y E v = some v' ∧ a.tmps[t]? = some v') (hv : conc V.Y E v = some v') :
    (a.put d v').tmps.size = nt ∧ ∀ t u, tm'.get t = some u → ∃ u', conc V.Y E u = some u' ∧ (a.put d v').tmps[t]? = some u' := by
  unfold putT at h
  split at h
  · cases h; exact ⟨hs, ht⟩
  · rename_i d
    split at h
    · rename_i hd
      cases h
      rw [nblt] at hd
      have hd := of_decide_eq_true hd
      refine ⟨by simpa [Act.put] using hs, fun t u hu => ?_⟩
      rcases Tr.get_set _ _ _ _ _ _ hu with ⟨rfl, e⟩ | ⟨h1, h2⟩
      · cases e
        exact ⟨v', hv, by simp [Act.put, hs, hd]⟩
      · obtain ⟨u', h3, h4⟩ := ht t u h2
        exact ⟨u', h3, by simp only [Act.put]; rw [Array.getElem?_setIfInBounds_ne (fun e => h1 e.symm)]; exact h4⟩
    · cases h
theorem put_defers (a : Act) (d : Option Nat) (v : Value) : (a.put d v).defers = a.defers := by cases d <;> rfl
theorem wantB_ok {E : Lb} {tm : Tr Value} {a : Act} {ops : Array Oper} {o : Oper} {b : Bool} (h : wantB ops.toList tm o.guard = some b) (ht : ∀ t v, tm.get t = some v → ∃ v', conc V.Y E v = some v' ∧ a.tmps[t]? = some v') : Region.wanted o (yielded ops a.tmps) = b := by
  unfold wantB at h
  unfold Region.wanted
  split at h
  · rename_i hg
    cases h
    rw [hg]
  · rename_i j want hg
    rw [hg]
    split at h
    · cases h
    · rename_i o' ho
      rw [nth_eq, Array.getElem?_toList] at ho
      split at h
      · cases h
      · rename_i t hd
        split at h
        · rename_i b' hb
          cases h
          obtain ⟨v', h1, h2⟩ := ht t _ hb
          cases h1
          simp only [yielded, ho, Option.bind_some, hd, h2]
          cases b' <;> cases want <;> rfl
        · rename_i hb
          cases h
          obtain ⟨v', h1, h2⟩ := ht t _ hb
          cases h1
          simp only [yielded, ho, Option.bind_some, hd, h2]
          rfl
        · cases h
theorem evList_cons (ops : List Oper) (o : Oper) (l : List Oper) (st : St) : evList cl C P nt ops (o :: l) st = (match listStep cl C P nt ops o st with
    | none => none
    | some (st', wr) => match evList cl C P nt ops l st' with
      | none => none
      | some (st'', wr') => some (st'', wr ++ wr')) := rfl
theorem tm_ext {E E' : Lb} (hx : Ext E E') {tm : Tr Value} {tmps : Array Value} (h : ∀ t v, tm.get t = some v → ∃ v', conc V.Y E v = some v' ∧ tmps[t]? = some v') : ∀ t v, tm.get t = some v → ∃ v', conc V.Y E' v = some v' ∧ tmps[t]? = some v' :=
  fun t v hv => let ⟨v', h1, h2⟩ := h t v hv; ⟨v', conc_ext hx _ _ h1, h2⟩
/-- Operations in their order. -/
theorem evList_ok (hC : CxOK C P V.Y) (hcl : ClOK V P cl) (ops : Array Oper) : ∀ (l : List Oper) (st st' : St) (wr : List Nat), evList cl C P nt ops.toList l st = some (st', wr) →
    st.nx ≤ st'.nx ∧ ∀ (E : Lb) (a : Act) (w : World), SR V E st nt a w → (∀ l, st.nx ≤ l → E l = none) →
      ∀ Q : Exit → Act → World → Prop, (∀ E' a' w', SR V E' st' nt a' w' → Step V E st.H st.nx w E' st'.H st'.nx wr w' → Q .normal a' w') → wpList P ops Q l a w
  | [], st, st', wr, h => by
    have h : some (st, ([] : List Nat)) = some (st', wr) := h
    cases h
    exact ⟨Nat.le_refl _, fun E a w hS _ Q hQ => hQ E a w hS (Step.refl hS.hr _)⟩
  | o :: l, st, st', wr, h => by
    rw [evList_cons] at h
    split at h
    · cases h
    · rename_i st1 wr1 h1
      split at h
      · cases h
      · rename_i st2 wr2 h2
        cases h
        obtain ⟨le2, ih⟩ := evList_ok hC hcl ops l st1 st' wr2 h2
        unfold listStep at h1
        split at h1
        · cases h1
        · rename_i hw
          split at h1
          · cases h1
          · rename_i tm htm
            cases h1
            refine ⟨le2, fun E a w hS hn Q hQ => ?_⟩
            have hwant := wantB_ok hw hS.tm
            unfold wpList
            rw [if_neg (by rw [hwant]; simp)]
            obtain ⟨p1, p2⟩ := putT_ok (v' := undef) htm hS.sz hS.tm rfl
            exact ih E _ w ⟨by rw [put_defers]; exact hS.df, p1, p2, hS.hr⟩ hn Q hQ
        · rename_i hw
          split at h1
          · cases h1
          · rename_i v H1 n1 w1 hop
            split at h1
            · cases h1
            · rename_i tm htm
              cases h1
              obtain ⟨le1, hok⟩ := evOp_ok hC hcl hop
              refine ⟨Nat.le_trans le1 le2, fun E a w hS hn Q hQ => ?_⟩
              have hwant := wantB_ok hw hS.tm
              unfold wpList
              rw [if_pos (by rw [hwant])]
              refine .inl (hok E w a hS.hr hn (fun x _ v hv => ev_ok hS.tm x v hv) _ _ (fun v' E' w' hv' hst => ?_))
              obtain ⟨p1, p2⟩ := putT_ok (v' := v') htm hS.sz (tm_ext hst.ext hS.tm) hv'
              refine ih E' _ w' ⟨by rw [put_defers]; exact hS.df, p1, p2, hst.hr⟩ (fun l hl => by rw [hst.out l (.inr hl)]; exact hn l (Nat.le_trans le1 hl)) Q (fun E2 a2 w2 hS2 hst2 => hQ E2 a2 w2 hS2 (hst.trans hst2))
end
end Go.Proofs.YtigjjddblijpbaaGreatDoor.Ex
namespace Go.Proofs.YtigjjddblijpbaaGreatDoor
open Go Go.RowKit
section
variable {P : Program} {ops : Array Oper} {Q : Exit → Act → World → Prop} {md : Region.Mode}

/-- Whatever an operation waits for stands ahead of it in the text. -/
def earlier (ops : Array Oper) : Bool := (List.range ops.size).all fun i => ((ops[i]?).map fun o => o.after.all fun e => !Region.binds .any e || decide (e.on < i)).getD true
theorem earlier_spec (h : earlier ops = true) {i : Nat} {o : Oper} (ho : ops[i]? = some o) {e : Edge} (he : e ∈ o.after) (hb : Region.binds .any e = true) : e.on < i := by
  have hlt : i < ops.size := (Array.getElem?_eq_some_iff.1 ho).1
  unfold earlier at h
  have h1 := List.all_eq_true.1 h i (List.mem_range.2 hlt)
  rw [ho] at h1
  simp only [Option.map_some, Option.getD_some, Array.all_eq_true_iff_forall_mem, Bool.or_eq_true, decide_eq_true_eq] at h1
  exact (h1 e he).resolve_left (by simp [hb])
/-- Does operation i wait for operation k, through others too? -/
def anc (ops : Array Oper) : Nat → Nat → Nat → Bool
  | 0, _, _ => false
  | f + 1, i, k => ((ops[i]?).map fun o => o.after.toList.any fun e => Region.binds .any e && (e.on == k || anc ops f e.on k)).getD false
/-- Whatever has come up, all for which it waits has come up. -/
def closed (ops : Array Oper) (listed : Array Bool) : Prop :=
  ∀ i o, ops[i]? = some o → listed.getD i false = true → ∀ e ∈ o.after, Region.binds .any e = true → listed.getD e.on false = true
theorem anc_listed {listed : Array Bool} (hc : closed ops listed) : ∀ (f i k : Nat),
    (∀ o, ops[i]? = some o → ∀ e ∈ o.after, Region.binds .any e = true → listed.getD e.on false = true) → anc ops f i k = true → listed.getD k false = true
  | 0, _, _, _, h => by simp [anc] at h
  | f + 1, i, k, hd, h => by
    unfold anc at h
    cases ho : ops[i]? with
    | none => rw [ho] at h; simp at h
    | some o =>
      rw [ho] at h
      simp only [Option.map_some, Option.getD_some, List.any_eq_true, Array.mem_toList_iff, Bool.and_eq_true, Bool.or_eq_true, beq_iff_eq] at h
      obtain ⟨e, he, hb, h⟩ := h
      have hl := hd o ho e he hb
      rcases h with rfl | h
      · exact hl
      · exact anc_listed hc f e.on k (fun o' ho' => hc e.on o' ho' hl) h
theorem all_listed (h : earlier ops = true) {listed : Array Bool} (hs : listed.size = ops.size) (hr : Region.ready .any ops listed = []) :
    ∀ i, i < ops.size → listed.getD i false = true := by
  intro i
  induction i using Nat.strongRecOn with
  | ind i ih =>
    intro hi
    cases hg : listed.getD i false with
    | true => rfl
    | false =>
      have ho : ops[i]? = some ops[i] := Array.getElem?_eq_getElem hi
      have h1 : i ∈ Region.ready .any ops listed := by
        rw [mem_ready]
        refine ⟨?_, ops[i], ho, fun e he hb => ?_⟩
        · have hl : i < listed.size := by omega
          simp [hl] at hg ⊢
          exact hg
        · have := earlier_spec h ho he hb
          exact ih e.on this (by omega)
      rw [hr] at h1
      cases h1
def upd (vs : Nat → Value) (i : Nat) (v : Value) : Nat → Value := fun k => if k = i then v else vs k
theorem upd_self (vs : Nat → Value) (i : Nat) (v : Value) : upd vs i v i = v := by simp [upd]
theorem upd_ne (vs : Nat → Value) (i : Nat) (v : Value) (k : Nat) (h : k ≠ i) : upd vs i v k = vs k := by simp [upd, h]
theorem set_size (listed : Array Bool) (i : Nat) : (listed.setIfInBounds i true).size = listed.size := by simp
theorem getD_self {listed : Array Bool} {i : Nat} (h : i < listed.size) : (listed.setIfInBounds i true).getD i false = true := by simp [h]
theorem wpAny_inv (he : earlier ops = true) (I : Array Bool → Act → World → Prop)
    (step : ∀ listed a w, listed.size = ops.size → closed ops listed → I listed a w → ∀ i, i ∈ Region.ready .any ops listed → wpOp P ops Q i (I (listed.setIfInBounds i true)) a w)
    (fin : ∀ listed a w, (∀ i, i < ops.size → listed.getD i false = true) → I listed a w → Q .normal a w) :
    ∀ (fuel : Nat) (listed : Array Bool) (a : Act) (w : World), listed.size = ops.size → closed ops listed → listed.toList.count false ≤ fuel → I listed a w → wpAny P .any ops Q fuel listed a w
  | 0, listed, a, w, hs, hc, hf, hI => by
    have h0 : ∀ i, i < ops.size → listed.getD i false = true := by
      intro i hi
      have hl : i < listed.size := by omega
      have h1 := List.count_eq_zero.1 (Nat.le_zero.1 hf)
      cases hg : listed[i] with
      | true => simp [hl, hg]
      | false => exact absurd (by rw [← hg, ← Array.getElem_toList]; exact List.getElem_mem _) h1
    refine ⟨?_, fin listed a w h0 hI⟩
    rw [List.eq_nil_iff_forall_not_mem]
    intro i hi
    obtain ⟨h1, o, ho, _⟩ := mem_ready.1 hi
    have hlt : i < ops.size := (Array.getElem?_eq_some_iff.1 ho).1
    have h2 := h0 i hlt
    have hl : i < listed.size := by omega
    simp [hl] at h1 h2
    rw [h1] at h2; cases h2
  | fuel + 1, listed, a, w, hs, hc, hf, hI => by
    refine ⟨fun hr => fin listed a w (all_listed he hs hr) hI, fun i hi => ?_⟩
    obtain ⟨h1, o, ho, hdep⟩ := mem_ready.1 hi
    have hlt : i < ops.size := (Array.getElem?_eq_some_iff.1 ho).1
    have hl : i < listed.size := by omega
    refine wpOp_mono (fun a' w' h => wpAny_inv he I step fin fuel _ a' w' (by rw [set_size]; exact hs) ?_ ?_ h) (step listed a w hs hc hI i hi)
    · intro j oj hj hjl e hej hb
      by_cases hij : j = i
      · subst hij
        rw [ho] at hj
        obtain rfl := Option.some.inj hj
        exact getD_set_true (hdep e hej hb)
      · rw [getD_set_ne false (fun h => hij h.symm)] at hjl
        exact getD_set_true (hc j oj hj hjl e hej hb)
    · have h2 : listed[i] = false := by simpa [hl] using h1
      have h3 : (listed.setIfInBounds i true).toList.count false + 1 = listed.toList.count false := by
        rw [Array.toList_setIfInBounds, List.count_set (by simpa using hl)]
        have h4 : listed.toList[i]'(by simpa using hl) = false := by simpa using h2
        rw [h4]
        have h5 : 0 < listed.toList.count false := List.count_pos_iff.2 (by rw [← h4]; exact List.getElem_mem _)
        simp only [beq_self_eq_true, if_true]
        have h6 : (true == false) = false := rfl
        rw [h6]
        simp only [Bool.false_eq_true, if_false]
        omega
      omega
/-- The state of a region: which temporaries hold what; what stands in memory. -/
theorem wp_region_each {id : Nat} {a : Act} {w : World} (hm : P.follows .mixedOrders = true) (he : earlier ops = true)
    (fr : (Nat → Value) → Act) (B : World → Prop) (V : Nat → (Nat → Value) → World → Prop) (vs0 : Nat → Value) (ha : fr vs0 = a) (hB : B w.drew)
    (step : ∀ i o, ops[i]? = some o → ∀ vs w, B w → (∀ k, anc ops ops.size i k = true → V k vs w) → ∀ K : Act → World → Prop,
      Shut (∀ v w', B w' → V i (upd vs i v) w' → (∀ j, j ≠ i → anc ops ops.size j i = false → V j vs w → V j (upd vs i v) w') → K (fr (upd vs i v)) w') →
      if Region.wanted o (yielded ops (fr vs).tmps) = true then Oper.wp P o (fr vs) w K Q else K ((fr vs).put o.dst undef) w)
    (fin : ∀ vs w, B w → (∀ i, i < ops.size → V i vs w) → Q .normal (fr vs) w) : (Code.region id ops true).wp P Q a w := by
  refine wp_region_any hm ?_
  refine wpAny_inv he (fun listed a w => ∃ vs, a = fr vs ∧ B w ∧ ∀ i, listed.getD i false = true → V i vs w) ?_ ?_ _ _ _ _ (by simp) ?_ (by simp) ⟨vs0, ha.symm, hB, ?_⟩
  · rintro listed a w hs hc ⟨vs, rfl, hB, hV⟩ i hi
    obtain ⟨h1, o, ho, hdep⟩ := mem_ready.1 hi
    have hlt : i < ops.size := (Array.getElem?_eq_some_iff.1 ho).1
    have hl : i < listed.size := by omega
    have h2 : listed.getD i false = false := by simp [hl] at h1 ⊢; exact h1
    refine wpOp_step ho (fun K hK => ?_)
    refine step i o ho vs w hB (fun k hk => hV k (anc_listed hc _ i k (fun o' ho' => ?_) hk)) K (fun v w' hB' hv hrest => hK _ _ ⟨upd vs i v, rfl, hB', fun j hj => ?_⟩)
    · rw [ho] at ho'
      obtain rfl := Option.some.inj ho'
      exact hdep
    · by_cases hji : j = i
      · subst hji; exact hv
      · rw [getD_set_ne false (fun h => hji h.symm)] at hj
        refine hrest j hji ?_ (hV j hj)
        cases ha : anc ops ops.size j i with
        | false => rfl
        | true =>
          have := anc_listed hc _ j i (fun o' ho' => hc j o' ho' hj) ha
          rw [h2] at this; cases this
  · rintro listed a w hall ⟨vs, rfl, hB, hV⟩
    exact fin vs w hB (fun i hi => hV i (hall i hi))
  · intro i o _ h
    rw [Array.getD_eq_getD_getElem?, Array.getElem?_replicate] at h
    split at h <;> simp at h
  · intro i h
    rw [Array.getD_eq_getD_getElem?, Array.getElem?_replicate] at h
    split at h <;> simp at h
/-- The same, where what is known of a value hangs on no other one, and lasts. -/
theorem wp_region_vals {id : Nat} {a : Act} {w : World} (hm : P.follows .mixedOrders = true) (he : earlier ops = true)
    (fr : (Nat → Value) → Act) (E : World → World → Prop) (B : World → Prop) (V : Nat → Value → World → Prop) (vs0 : Nat → Value) (ha : fr vs0 = a) (hB : B w.drew)
    (hBE : ∀ w w', B w → E w w' → B w') (hVE : ∀ k v w w', B w → V k v w → E w w' → V k v w')
    (step : ∀ i o, ops[i]? = some o → ∀ vs w, B w → (∀ k, anc ops ops.size i k = true → V k (vs k) w) → ∀ K : Act → World → Prop,
      Shut (∀ v w', E w w' → V i v w' → K (fr (upd vs i v)) w') →
      if Region.wanted o (yielded ops (fr vs).tmps) = true then Oper.wp P o (fr vs) w K Q else K ((fr vs).put o.dst undef) w)
    (fin : ∀ vs w, B w → (∀ i, i < ops.size → V i (vs i) w) → Q .normal (fr vs) w) : (Code.region id ops true).wp P Q a w :=
  wp_region_each hm he fr B (fun k vs w => V k (vs k) w) vs0 ha hB
    (fun i o ho vs w hB hd K hK => step i o ho vs w hB hd K (fun v w' hE hv => hK v w' (hBE w w' hB hE) (by rw [upd_self]; exact hv)
      (fun j hj _ h => by rw [upd_ne _ _ _ _ hj]; exact hVE j _ w w' hB h hE)))
    fin
/-- A state into whose temporaries the region's values are put. -/
def puts : List Oper → Nat → (Nat → Value) → Act → Act
  | [], _, _, a => a
  | o :: os, i, vs, a => puts os (i + 1) vs (a.put o.dst (vs i))
def dsts (os : List Oper) : List Tmp := os.filterMap (·.dst)
def nodupB : List Nat → Bool
  | [] => true
  | x :: xs => !xs.contains x && nodupB xs
theorem puts_put_ne : ∀ (os : List Oper) (i : Nat) (vs : Nat → Value) (a : Act) (d : Option Tmp) (v : Value), (∀ t, d = some t → t ∉ dsts os) →
    (puts os i vs a).put d v = puts os i vs (a.put d v)
  | [], _, _, _, _, _, _ => rfl
  | o :: os, i, vs, a, d, v, h => by
    unfold puts
    rw [puts_put_ne os (i + 1) vs _ d v (fun t ht hm => h t ht (by
      unfold dsts at *
      rw [List.filterMap_cons]
      split
      · exact hm
      · exact List.mem_cons_of_mem _ hm))]
    congr 1
    refine Act.put_comm a _ _ fun t ht he => ?_
    refine h t (by rw [he]) ?_
    unfold dsts
    rw [List.filterMap_cons, ht]
    exact List.mem_cons_self ..
theorem put_put (a : Act) (d : Option Tmp) (u v : Value) : (a.put d u).put d v = a.put d v := by
  cases d with
  | none => rfl
  | some t => simp [Act.put]
theorem puts_upd : ∀ (os : List Oper) (i j : Nat) (o : Oper) (vs : Nat → Value) (v : Value) (a : Act), nodupB (dsts os) = true → os[j]? = some o →
    (puts os i vs a).put o.dst v = puts os i (upd vs (i + j) v) a
  | [], _, _, _, _, _, _, _, h => by simp at h
  | o' :: os, i, j, o, vs, v, a, hn, h => by
    have hn' : nodupB (dsts os) = true := by
      unfold dsts at hn ⊢
      rw [List.filterMap_cons] at hn
      split at hn
      · exact hn
      · unfold nodupB at hn; rw [Bool.and_eq_true] at hn; exact hn.2
    cases j with
    | zero =>
      simp only [List.getElem?_cons_zero, Option.some.injEq] at h
      subst h
      unfold puts
      have e0 : i + 0 = i := rfl
      rw [e0, upd_self]
      have e : ∀ (a : Act), puts os (i + 1) (upd vs i v) a = puts os (i + 1) vs a := by
        intro a
        have : ∀ (os : List Oper) (k : Nat) (a : Act), i < k → puts os k (upd vs i v) a = puts os k vs a := by
          intro os
          induction os with
          | nil => intros; rfl
          | cons x xs ih =>
            intro k a hk
            unfold puts
            rw [upd_ne vs i v k (by omega)]
            exact ih (k + 1) _ (by omega)
        exact this os (i + 1) a (by omega)
      rw [e]
      rw [puts_put_ne os (i + 1) vs _ o'.dst v (fun t ht hm => by
        unfold dsts at hn hm
        rw [List.filterMap_cons, ht] at hn
        unfold nodupB at hn
        rw [Bool.and_eq_true] at hn
        have := hn.1
        simp at this
        simp at hm
        obtain ⟨x, hx, hxe⟩ := hm
        exact this x hx hxe)]
      rw [put_put]
    | succ j =>
      simp only [List.getElem?_cons_succ] at h
      unfold puts
      rw [puts_upd os (i + 1) j o vs v _ hn' h]
      rw [upd_ne vs (i + (j + 1)) v i (by omega)]
      rw [show i + 1 + j = i + (j + 1) by omega]
/-- What the temporaries hold before the region. -/
def held (os : List Oper) (a : Act) : Nat → Value := fun i => match os[i]? with | some o => (match o.dst with | some d => a.tmps.getD d undef | none => undef) | none => undef
theorem put_same (a : Act) (d : Option Tmp) : a.put d (match d with | some d => a.tmps.getD d undef | none => undef) = a := by
  cases d with
  | none => rfl
  | some t =>
    unfold Act.put
    simp only
    have : a.tmps.setIfInBounds t (a.tmps.getD t undef) = a.tmps := by
      apply Array.ext_getElem?
      intro i
      rw [Array.getElem?_setIfInBounds]
      split
      · rename_i h
        subst h
        split
        · rename_i h; simp [h]
        · rename_i h; simp at h; simp [Array.getElem?_eq_none h]
      · rfl
    rw [this]
theorem puts_held : ∀ (os : List Oper) (i : Nat) (vs : Nat → Value) (a : Act), (∀ j o, os[j]? = some o → vs (i + j) = (match o.dst with | some d => a.tmps.getD d undef | none => undef)) → puts os i vs a = a
  | [], _, _, _, _ => rfl
  | o :: os, i, vs, a, h => by
    unfold puts
    have h0 := h 0 o rfl
    rw [Nat.add_zero] at h0
    rw [h0, put_same]
    refine puts_held os (i + 1) vs a fun j o' ho' => ?_
    have := h (j + 1) o' (by simpa using ho')
    rw [← this]; congr 1; omega
/-- Each of the operations. -/
def Each (ops : Array Oper) (S : Nat → Oper → Prop) : List Oper → Nat → Prop
  | [], _ => True
  | o :: os, i => S i o ∧ Each ops S os (i + 1)
theorem Each.at {S : Nat → Oper → Prop} : ∀ (os : List Oper) (i : Nat), Each ops S os i → ∀ j o, os[j]? = some o → S (i + j) o
  | [], _, _, _, _, h => by simp at h
  | o' :: os, i, h, j, o, ho => by
    cases j with
    | zero =>
      simp only [List.getElem?_cons_zero, Option.some.injEq] at ho
      subst ho; exact h.1
    | succ j =>
      simp only [List.getElem?_cons_succ] at ho
      have := Each.at os (i + 1) h.2 j o ho
      rwa [show i + 1 + j = i + (j + 1) by omega] at this
/-- A claim on a value lasts, whatever is added to memory. -/
def Stays (R : Value → World → Prop) : Prop := ∀ v w w', R v w → Below w.heap.size w w' → R v w'
/-- What an operation leaves: a value of which something holds; or something holds now of another one's value. -/
inductive Cl
  | any
  | own (R : Value → World → Prop) (h : Stays R)
  | at (j : Nat) (R : Value → World → Prop) (h : Stays R)
def Cl.holds (i : Nat) (vs : Nat → Value) (w : World) : Cl → Prop
  | .any => True
  | .own R _ => R (vs i) w
  | .at j R _ => R (vs j) w
def Cl.looks : Cl → Option Nat
  | .at j _ _ => some j
  | _ => none
theorem Cl.below {i : Nat} {vs : Nat → Value} {w w' : World} (hb : Below w.heap.size w w') : ∀ c : Cl, c.holds i vs w → c.holds i vs w'
  | .any, _ => trivial
  | .own _ h, x => h _ _ _ x hb
  | .at _ _ h, x => h _ _ _ x hb
theorem Cl.upd_ne {k i : Nat} {vs : Nat → Value} {v : Value} {w : World} (hk : k ≠ i) : ∀ c : Cl, c.looks ≠ some i → c.holds k vs w → c.holds k (upd vs i v) w
  | .any, _, _ => trivial
  | .own _ _, _, x => by simp only [Cl.holds, Go.Proofs.YtigjjddblijpbaaGreatDoor.upd_ne vs i v k hk] at x ⊢; exact x
  | .at j _ _, h, x => by
    have hj : j ≠ i := fun e => h (by rw [e]; rfl)
    simp only [Cl.holds, Go.Proofs.YtigjjddblijpbaaGreatDoor.upd_ne vs i v j hj] at x ⊢; exact x
def claim (cls : List Cl) (k : Nat) (vs : Nat → Value) (w : World) : Prop := (cls.getD k .any).holds k vs w
/-- What a claim looks at comes ahead of its operation. -/
def looksOk (os : List Oper) (ls : List (Option Nat)) : Bool :=
  (List.range os.length).all fun k => match ls.getD k none with | some j => anc os.toArray os.length k j | none => true
theorem looksOk_spec {os : List Oper} {cls : List Cl} (h : looksOk os (cls.map Cl.looks) = true) {k j : Nat} (hk : k < os.length) (hj : (cls.getD k .any).looks = some j) : anc os.toArray os.length k j = true := by
  unfold looksOk at h
  have := List.all_eq_true.1 h k (List.mem_range.2 hk)
  have e : (cls.map Cl.looks).getD k none = (cls.getD k .any).looks := by
    simp only [List.getD, List.getElem?_map]
    cases cls[k]? <;> rfl
  rw [e, hj] at this
  exact this
def isPtr (v : Value) (b : Nat) : Prop := v = .pointer (some ⟨b, 0, none⟩)
/-- One operation: it leaves a value that is as it should be; whatever is known lasts: since nothing that stood is touched (hK; hA where a new box is made), or for each by itself (hL). B holds all along; B0 till an operation of ST has come up. -/
def StepAt (P : Program) (Q : Exit → Act → World → Prop) (os : List Oper) (a : Act) (B : World → Prop) (ST : List Nat) (B0 : World → Prop) (cls : List Cl) (AL : List Nat) (i : Nat) (o : Oper) : Prop :=
  ∀ vs w, B w → ((ST.all fun s => s == i || anc os.toArray os.length s i) = true → B0 w) → (∀ k, anc os.toArray os.length i k = true → claim cls k vs w) →
    (∀ j k, j ≠ k → (AL.contains j && AL.contains k && anc os.toArray os.length i j && anc os.toArray os.length i k) = true → vs j ≠ vs k) →
    (∀ k, (k == i || anc os.toArray os.length k i) = true → vs k = held os a k) → ∀ K : Act → World → Prop,
    Shut (AL.contains i = false → ∀ v w', Below w.heap.size w w' → claim cls i (upd vs i v) w' → K ((puts os 0 vs a).put o.dst v) w') →
    Shut (∀ b w', Below w.heap.size w w' → w.heap.size ≤ b → claim cls i (upd vs i (.pointer (some ⟨b, 0, none⟩))) w' → K ((puts os 0 vs a).put o.dst (.pointer (some ⟨b, 0, none⟩))) w') →
    Shut (AL.contains i = false → ∀ v w', B w' → (ST.contains i = false → B0 w') → claim cls i (upd vs i v) w' → (∀ j, j ≠ i → anc os.toArray os.length j i = false → claim cls j vs w → claim cls j vs w') → K ((puts os 0 vs a).put o.dst v) w') →
    if Region.wanted o (yielded os.toArray (puts os 0 vs a).tmps) = true then Oper.wp P o (puts os 0 vs a) w K Q else K ((puts os 0 vs a).put o.dst undef) w
theorem wp_region_cl {os : List Oper} {id : Nat} {a : Act} {w : World} (B : World → Prop) (ST : List Nat) (B0 : World → Prop) (cls : List Cl) (AL : List Nat)
    (hm : P.follows .mixedOrders = true) (he : earlier os.toArray = true) (hn : nodupB (dsts os) = true) (hU : looksOk os (cls.map Cl.looks) = true) (hB : B w.drew) (hB0 : B0 w.drew)
    (hBE : ∀ w w', B w → Below w.heap.size w w' → B w') (hBE0 : ∀ w w', B w → B0 w → Below w.heap.size w w' → B0 w')
    (hAL : ∀ k vs w, AL.contains k = true → claim cls k vs w → ∃ b, isPtr (vs k) b ∧ b < w.heap.size)
    (step : Each os.toArray (StepAt P Q os a B ST B0 cls AL) os 0)
    (fin : ∀ vs w, B w → (∀ i, i < os.length → claim cls i vs w) → (∀ j k, j ≠ k → j < os.length → k < os.length → (AL.contains j && AL.contains k) = true → vs j ≠ vs k) → Q .normal (puts os 0 vs a) w) :
    (Code.region id os.toArray true).wp P Q a w := by
  have hsz : os.toArray.size = os.length := by simp
  refine wp_region_any hm ?_
  refine wpAny_inv he (fun listed a' w => ∃ vs, a' = puts os 0 vs a ∧ B w ∧ ((∀ s, ST.contains s = true → listed.getD s false = false) → B0 w) ∧ (∀ i, listed.getD i false = true → claim cls i vs w) ∧ (∀ i, listed.getD i false = false → vs i = held os a i) ∧
    (∀ j k, j ≠ k → (AL.contains j && AL.contains k) = true → listed.getD j false = true → listed.getD k false = true → vs j ≠ vs k)) ?_ ?_ _ _ _ _ (by simp) ?_ (by simp)
    ⟨held os a, ?_, hB, fun _ => hB0, ?_, fun _ _ => rfl, ?_⟩
  · rintro listed a' w hs hc ⟨vs, rfl, hB, hS, hV, hold, hne⟩ i hi
    obtain ⟨h1, o, ho, hdep⟩ := mem_ready.1 hi
    have hlt : i < os.toArray.size := (Array.getElem?_eq_some_iff.1 ho).1
    have hl : i < listed.size := by omega
    have h2 : listed.getD i false = false := by simp [hl] at h1 ⊢; exact h1
    have ho' : os[i]? = some o := by simpa using ho
    have hanc : ∀ k, anc os.toArray os.length i k = true → listed.getD k false = true := fun k hk => anc_listed hc _ i k (fun o' ho'' => by
      rw [ho] at ho''
      obtain rfl := Option.some.inj ho''
      exact hdep) hk
    have hnot : ∀ j, listed.getD j false = true → anc os.toArray os.length j i = false := fun j hj => by
      cases ha : anc os.toArray os.length j i with
      | false => rfl
      | true =>
        have := anc_listed hc _ j i (fun o' ho' => hc j o' ho' hj) ha
        rw [h2] at this; cases this
    have hlooks : ∀ j, listed.getD j false = true → (cls.getD j .any).looks ≠ some i := fun j hj e => by
      have hjl : j < os.length := by
        have hjs : j < listed.size := by
          rcases Nat.lt_or_ge j listed.size with h' | h'
          · exact h'
          · rw [Array.getD_eq_getD_getElem?, Array.getElem?_eq_none h'] at hj; cases hj
        omega
      have := looksOk_spec hU hjl e
      rw [hnot j hj] at this; cases this
    have hji : ∀ j, (listed.setIfInBounds i true).getD j false = true → j ≠ i → listed.getD j false = true := fun j hj h => by
      rwa [getD_set_ne false (fun x => h x.symm)] at hj
    have hneU : ∀ v, (AL.contains i = true → ∃ b, v = .pointer (some ⟨b, 0, none⟩) ∧ w.heap.size ≤ b) →
        ∀ j k, j ≠ k → (AL.contains j && AL.contains k) = true → (listed.setIfInBounds i true).getD j false = true → (listed.setIfInBounds i true).getD k false = true → upd vs i v j ≠ upd vs i v k := by
      intro v hv j k hjk hal hj hk
      rw [Bool.and_eq_true] at hal
      by_cases h1 : j = i
      · subst h1
        have hki : k ≠ j := fun h => hjk h.symm
        rw [upd_self, upd_ne vs j v k hki]
        obtain ⟨b, rfl, hb⟩ := hv hal.1
        obtain ⟨b', e', hb'⟩ := hAL k vs w hal.2 (hV k (hji k hk hki))
        unfold isPtr at e'
        rw [e']
        intro e; simp at e <;> omega
      · by_cases h3 : k = i
        · subst h3
          rw [upd_self, upd_ne vs k v j h1]
          obtain ⟨b, rfl, hb⟩ := hv hal.2
          obtain ⟨b', e', hb'⟩ := hAL j vs w hal.1 (hV j (hji j hj h1))
          unfold isPtr at e'
          rw [e']
          intro e; simp at e <;> omega
        · rw [upd_ne vs i v j h1, upd_ne vs i v k h3]
          exact hne j k hjk (by rw [Bool.and_eq_true]; exact hal) (hji j hj h1) (hji k hk h3)
    refine wpOp_step ho (fun K hK => ?_)
    have hs1 := Each.at os 0 step i o ho'
    rw [Nat.zero_add] at hs1
    have hnst : (ST.all fun s => s == i || anc os.toArray os.length s i) = true → ∀ s, ST.contains s = true → listed.getD s false = false := by
      intro h s hs
      have h1 := List.all_eq_true.1 h s (by simpa using hs)
      rw [Bool.or_eq_true] at h1
      rcases h1 with h1 | h1
      · obtain rfl : s = i := by simpa using h1
        exact h2
      · cases hg : listed.getD s false with
        | false => rfl
        | true => rw [hnot s hg] at h1; cases h1
    have hup : (∀ s, ST.contains s = true → (listed.setIfInBounds i true).getD s false = false) → ST.contains i = false ∧ ∀ s, ST.contains s = true → listed.getD s false = false := by
      intro h
      refine ⟨?_, fun s hs => ?_⟩
      · cases hg : ST.contains i with
        | false => rfl
        | true => have := h i hg; rw [getD_self hl] at this; cases this
      · cases hg : listed.getD s false with
        | false => rfl
        | true => have := h s hs; rw [getD_set_true hg] at this; cases this
    have hholdU : ∀ v j, (listed.setIfInBounds i true).getD j false = false → upd vs i v j = held os a j := by
      intro v j hj
      have hji' : j ≠ i := fun e => by subst e; rw [getD_self hl] at hj; cases hj
      rw [upd_ne vs i v j hji']
      rw [getD_set_ne false (fun x => hji' x.symm)] at hj
      exact hold j hj
    have hholdI : ∀ k, (k == i || anc os.toArray os.length k i) = true → vs k = held os a k := by
      intro k hk
      refine hold k ?_
      rw [Bool.or_eq_true] at hk
      rcases hk with h | h
      · obtain rfl : k = i := by simpa using h
        exact h2
      · cases hg : listed.getD k false with
        | false => rfl
        | true => rw [hnot k hg] at h; cases h
    refine hs1 vs w hB (fun h => hS (hnst h)) (fun k hk => hV k (hanc k hk)) (fun j k hjk h => ?_) hholdI K (fun hal v w' hb hv => ?_) (fun b w' hb hbl hv => ?_) (fun hal v w' hB' hB0' hv hr => ?_)
    · simp only [Bool.and_eq_true] at h
      exact hne j k hjk (by rw [Bool.and_eq_true]; exact ⟨h.1.1.1, h.1.1.2⟩) (hanc j h.1.2) (hanc k h.2)
    · rw [puts_upd os 0 i o vs v a hn ho', Nat.zero_add]
      refine hK _ _ ⟨upd vs i v, rfl, hBE w w' hB hb, fun h => hBE0 w w' hB (hS (hup h).2) hb, fun j hj => ?_, hholdU _, hneU v (fun h => by rw [hal] at h; cases h)⟩
      by_cases h : j = i
      · subst h; exact hv
      · exact Cl.upd_ne h _ (hlooks j (hji j hj h)) (Cl.below hb _ (hV j (hji j hj h)))
    · rw [puts_upd os 0 i o vs _ a hn ho', Nat.zero_add]
      refine hK _ _ ⟨upd vs i _, rfl, hBE w w' hB hb, fun h => hBE0 w w' hB (hS (hup h).2) hb, fun j hj => ?_, hholdU _, hneU _ (fun h => ⟨b, rfl, hbl⟩)⟩
      by_cases h : j = i
      · subst h; exact hv
      · exact Cl.upd_ne h _ (hlooks j (hji j hj h)) (Cl.below hb _ (hV j (hji j hj h)))
    · rw [puts_upd os 0 i o vs v a hn ho', Nat.zero_add]
      refine hK _ _ ⟨upd vs i v, rfl, hB', fun h => hB0' (hup h).1, fun j hj => ?_, hholdU _, hneU v (fun h => by rw [hal] at h; cases h)⟩
      by_cases h : j = i
      · subst h; exact hv
      · exact Cl.upd_ne h _ (hlooks j (hji j hj h)) (hr j h (hnot j (hji j hj h)) (hV j (hji j hj h)))
  · rintro listed a' w hall ⟨vs, rfl, hB, hS, hV, _, hne⟩
    rw [hsz] at hall
    exact fin vs w hB (fun i hi => hV i (hall i hi)) (fun j k hjk hj hk hal => hne j k hjk hal (hall j hj) (hall k hk))
  · intro i o _ h
    rw [Array.getD_eq_getD_getElem?, Array.getElem?_replicate] at h
    split at h <;> simp at h
  · refine (puts_held os 0 _ a fun j o ho => ?_).symm
    rw [Nat.zero_add]
    unfold held
    rw [ho]
  · intro i h
    rw [Array.getD_eq_getD_getElem?, Array.getElem?_replicate] at h
    split at h <;> simp at h
  · intro j k _ _ h
    rw [Array.getD_eq_getD_getElem?, Array.getElem?_replicate] at h
    split at h <;> simp at h
/-- The same, where no operation panics. -/
theorem wp_region_calm {os : List Oper} {id : Nat} {a : Act} {w : World} (B : World → Prop) (ST : List Nat) (B0 : World → Prop) (cls : List Cl) (AL : List Nat)
    (hm : P.follows .mixedOrders = true) (he : earlier os.toArray = true) (hn : nodupB (dsts os) = true) (hU : looksOk os (cls.map Cl.looks) = true) (hB : B w.drew) (hB0 : B0 w.drew)
    (hBE : ∀ w w', B w → Below w.heap.size w w' → B w') (hBE0 : ∀ w w', B w → B0 w → Below w.heap.size w w' → B0 w')
    (hAL : ∀ k vs w, AL.contains k = true → claim cls k vs w → ∃ b, isPtr (vs k) b ∧ b < w.heap.size)
    (step : ∀ Q : Exit → Act → World → Prop, Each os.toArray (StepAt P Q os a B ST B0 cls AL) os 0)
    (fin : ∀ vs w, B w → (∀ i, i < os.length → claim cls i vs w) → (∀ j k, j ≠ k → j < os.length → k < os.length → (AL.contains j && AL.contains k) = true → vs j ≠ vs k) → Q .normal (puts os 0 vs a) w) :
    (Code.region id os.toArray true).wp P Q a w :=
  wp_region_cl B ST B0 cls AL hm he hn hU hB hB0 hBE hBE0 hAL (step Q) fin
/-- Each claim but one lasts from one world to another. -/
def KeepAll (i : Nat) (vs : Nat → Value) (w w' : World) : List Cl → Nat → Prop
  | [], _ => True
  | c :: cs, k => (k = i ∨ (c.holds k vs w → c.holds k vs w')) ∧ KeepAll i vs w w' cs (k + 1)
theorem keep_all {i : Nat} {vs : Nat → Value} {w w' : World} : ∀ {cls : List Cl} {k : Nat}, KeepAll i vs w w' cls k → ∀ j, k + j ≠ i → (cls.getD j .any).holds (k + j) vs w → (cls.getD j .any).holds (k + j) vs w'
  | [], _, _, j, _, h => by simp [Cl.holds]
  | c :: cs, k, hk, j, hj, h => by
    cases j with
    | zero => exact (hk.1.resolve_left hj) h
    | succ j =>
      have := keep_all (cls := cs) (k := k + 1) hk.2 j (by omega)
      rw [show k + 1 + j = k + (j + 1) by omega] at this
      exact this h
theorem claims_keep {i : Nat} {vs : Nat → Value} {w w' : World} {cls : List Cl} {p : Nat → Prop} (h : KeepAll i vs w w' cls 0) : ∀ j, j ≠ i → p j → claim cls j vs w → claim cls j vs w' := fun j hj _ hc => by
  have := keep_all h j (by omega)
  rw [Nat.zero_add] at this
  exact this hc
/-- A value is this one. -/
def Is (v : Value) : Cl := .own (fun u _ => u = v) (fun _ _ _ h _ => h)
theorem is_keep {v : Value} {k : Nat} {vs : Nat → Value} {w w' : World} (h : (Is v).holds k vs w) : (Is v).holds k vs w' := h
end
end Go.Proofs.YtigjjddblijpbaaGreatDoor
namespace Go.Proofs.YtigjjddblijpbaaGreatDoor.Ex
open Go
set_option linter.unusedSimpArgs false
set_option linter.unusedVariables false

theorem bit_test (m i : Nat) : bit m i = m.testBit i := by
  unfold bit
  rw [Nat.testBit_eq_decide_div_mod_eq, Nat.shiftRight_eq_div_pow]
  rcases Nat.mod_two_eq_zero_or_one (m / 2 ^ i) with h | h <;> rw [h] <;> rfl
theorem bit_or (a b i : Nat) : bit (a ||| b) i = (bit a i || bit b i) := by simp only [bit_test, Nat.testBit_or]
theorem bit_one (k i : Nat) : bit (1 <<< k) i = true → i = k := by
  rw [bit_test, Nat.one_shiftLeft, Nat.testBit_two_pow]
  intro h
  exact (of_decide_eq_true h).symm
theorem bit_zero (i : Nat) : bit 0 i = false := by simp [bit_test]
theorem maskOf_spec (ms : List Nat) : ∀ (es : List Edge) (m r : Nat), maskOf ms es m = some r →
    (∀ e, e ∈ es → Region.binds .any e = true → e.on < ms.length) ∧ ∀ i, bit r i = true → bit m i = true ∨ ∃ e, e ∈ es ∧ Region.binds .any e = true ∧ (e.on = i ∨ ∃ x, ms[e.on]? = some x ∧ bit x i = true)
  | [], m, r, h => by
    cases h
    exact ⟨fun e he => (by cases he), fun i hi => .inl hi⟩
  | e :: es, m, r, h => by
    unfold maskOf at h
    split at h
    · rename_i hb
      obtain ⟨h1, h2⟩ := maskOf_spec ms es m r h
      refine ⟨fun e' he' hb' => ?_, fun i hi => ?_⟩
      · cases he' with
        | head => rw [hb] at hb'; cases hb'
        | tail _ he' => exact h1 e' he' hb'
      · rcases h2 i hi with h3 | ⟨e', h3, h4⟩
        · exact .inl h3
        · exact .inr ⟨e', List.mem_cons_of_mem _ h3, h4⟩
    · rename_i hb
      split at h
      · cases h
      · rename_i x hx
        rw [nth_eq] at hx
        obtain ⟨h1, h2⟩ := maskOf_spec ms es _ r h
        refine ⟨fun e' he' hb' => ?_, fun i hi => ?_⟩
        · cases he' with
          | head => exact (List.getElem?_eq_some_iff.1 hx).1
          | tail _ he' => exact h1 e' he' hb'
        · rcases h2 i hi with h3 | ⟨e', h3, h4⟩
          · rw [bit_or, bit_or] at h3
            simp only [Bool.or_eq_true] at h3
            rcases h3 with h3 | h3 | h3
            · exact .inl h3
            · exact .inr ⟨e, List.mem_cons_self .., hb, .inr ⟨x, hx, h3⟩⟩
            · exact .inr ⟨e, List.mem_cons_self .., hb, .inl (bit_one _ _ h3).symm⟩
          · exact .inr ⟨e', List.mem_cons_of_mem _ h3, h4⟩
theorem masks_spec : ∀ (os : List Oper) (ms ms' : List Nat), masks os ms = some ms' → ∃ t, ms' = ms ++ t ∧ t.length = os.length ∧ ∀ (j : Nat) (o : Oper), os[j]? = some o → ∃ m, ms'[ms.length + j]? = some m ∧
    (∀ e, e ∈ o.after.toList → Region.binds .any e = true → e.on < ms.length + j) ∧ ∀ i, bit m i = true → ∃ e, e ∈ o.after.toList ∧ Region.binds .any e = true ∧ (e.on = i ∨ ∃ x, ms'[e.on]? = some x ∧ bit x i = true)
  | [], ms, ms', h => by
    cases h
    exact ⟨[], by simp, rfl, fun j o hj => (by simp at hj)⟩
  | o :: os, ms, ms', h => by
    unfold masks at h
    split at h
    · cases h
    · rename_i m hm
      obtain ⟨t, h1, h2, h3⟩ := masks_spec os (ms ++ [m]) ms' h
      obtain ⟨g1, g2⟩ := maskOf_spec ms _ _ _ hm
      refine ⟨m :: t, by rw [h1]; simp, by simp [h2], fun j o' hj => ?_⟩
      cases j with
      | zero =>
        simp at hj; subst hj
        refine ⟨m, by rw [h1]; simp, g1, fun i hi => ?_⟩
        rcases g2 i hi with h4 | ⟨e, h4, h5, h6⟩
        · rw [bit_zero] at h4; cases h4
        · refine ⟨e, h4, h5, ?_⟩
          rcases h6 with h6 | ⟨x, h6, h7⟩
          · exact .inl h6
          · have hlt := (List.getElem?_eq_some_iff.1 h6).1
            exact .inr ⟨x, by rw [h1, List.append_assoc, List.getElem?_append_left hlt]; exact h6, h7⟩
      | succ j =>
        simp at hj
        obtain ⟨m', k1, k2, k3⟩ := h3 j o' hj
        have e1 : (ms ++ [m]).length + j = ms.length + (j + 1) := by simp; omega
        rw [e1] at k1 k2
        exact ⟨m', k1, k2, k3⟩
section
variable {cl : Cl} {C : Cx} {P : Program} {nt : Nat}
def recsAt (rs : Nat → Rec) : Nat → Recs
  | 0 => ⟨[], []⟩
  | i + 1 => (recsAt rs i).add (rs i)
theorem evDraw_cons (ops : List Oper) (ms : List Nat) (pre : List Rec) (chk : Bool) (o : Oper) (l : List Oper) (j : Nat) (recs : Recs) (st : St) : evDraw cl C P nt ops ms pre chk (o :: l) j recs st = (match drawStep cl C P nt ops ms pre chk o j recs st with
    | none => none
    | some (st', wr, r) => match evDraw cl C P nt ops ms pre chk l (j + 1) (recs.add r) st' with
      | none => none
      | some (st'', wr', rs) => some (st'', wr ++ wr', rs)) := rfl
/-- What was reckoned of a region, operation by operation. -/
theorem draw_trace {ops : List Oper} {ms : List Nat} {pre : List Rec} : ∀ (l : List Oper) (j : Nat) (sts0 : Nat → St) (rs0 : Nat → Rec) (st' : St) (wr : List Nat) (rr : Recs), evDraw cl C P nt ops ms pre true l j (recsAt rs0 j) (sts0 j) = some (st', wr, rr) →
    ∃ (sts : Nat → St) (rs : Nat → Rec), (∀ i, i ≤ j → sts i = sts0 i) ∧ (∀ i, i < j → rs i = rs0 i) ∧ sts (j + l.length) = st' ∧
      (∀ i o, l[i]? = some o → drawStep cl C P nt ops ms pre true o (j + i) (recsAt rs (j + i)) (sts (j + i)) = some (sts (j + i + 1), (rs (j + i)).wr, rs (j + i))) ∧
      (∀ x, x ∈ wr ↔ ∃ i, i < l.length ∧ x ∈ (rs (j + i)).wr)
  | [], j, sts0, rs0, st', wr, rr, h => by
    have h : some (sts0 j, ([] : List Nat), recsAt rs0 j) = some (st', wr, rr) := h
    cases h
    exact ⟨sts0, rs0, fun _ _ => rfl, fun _ _ => rfl, rfl, fun i o hi => (by simp at hi), fun x => (by simp)⟩
  | o :: l, j, sts0, rs0, st', wr, rr, h => by
    rw [evDraw_cons] at h
    split at h
    · cases h
    · rename_i st1 wr1 r1 h1
      have hwr : wr1 = r1.wr := by
        unfold drawStep at h1
        repeat' split at h1
        all_goals first | (cases h1; done) | (cases h1; rfl)
      split at h
      · cases h
      · rename_i st2 wr2 rr2 h2
        cases h
        have same : ∀ (f g : Nat → Rec) k, (∀ i, i < k → f i = g i) → recsAt f k = recsAt g k := by
          intro f g k
          induction k with
          | zero => intro _; rfl
          | succ k ih => intro hk; simp only [recsAt]; rw [ih (fun i hi => hk i (by omega)), hk k (by omega)]
        have e1 : (recsAt rs0 j).add r1 = recsAt (fun i => if i = j then r1 else rs0 i) (j + 1) := by
          simp only [recsAt, if_true]
          rw [same (fun i => if i = j then r1 else rs0 i) rs0 j (fun i hi => by simp [show ¬ i = j by omega])]
        rw [e1] at h2
        obtain ⟨sts, rs, k1, k2, k3, k4, k5⟩ := draw_trace l (j + 1) (fun i => if i = j + 1 then st1 else sts0 i) (fun i => if i = j then r1 else rs0 i) st' wr2 rr (by simpa using h2)
        have sj : sts j = sts0 j := by rw [k1 j (by omega)]; simp
        have sj1 : sts (j + 1) = st1 := by rw [k1 (j + 1) (by omega)]; simp
        have rj : rs j = r1 := by rw [k2 j (by omega)]; simp
        refine ⟨sts, rs, fun i hi => ?_, fun i hi => ?_, by rw [← k3]; congr 1; simp; omega, fun i o' hi => ?_, fun x => ?_⟩
        · rw [k1 i (by omega)]; simp [show ¬ i = j + 1 by omega]
        · rw [k2 i (by omega)]; simp [show ¬ i = j by omega]
        · cases i with
          | zero =>
            simp at hi; subst hi
            rw [Nat.add_zero, sj, rj, sj1, ← hwr, same rs rs0 j (fun i hi => by rw [k2 i (by omega)]; simp [show ¬ i = j by omega])]
            exact h1
          | succ i =>
            simp at hi
            have := k4 i o' hi
            rw [show j + (i + 1) = j + 1 + i by omega]
            exact this
        · rw [List.mem_append, k5 x]
          constructor
          · rintro (h | ⟨i, h3, h4⟩)
            · exact ⟨0, by simp, by rw [Nat.add_zero, rj, ← hwr]; exact h⟩
            · exact ⟨i + 1, by simp; omega, by rw [show j + (i + 1) = j + 1 + i by omega]; exact h4⟩
          · rintro ⟨i, h3, h4⟩
            cases i with
            | zero => rw [Nat.add_zero, rj, ← hwr] at h4; exact .inl h4
            | succ i => exact .inr ⟨i, by simp at h3; omega, by rw [show j + 1 + i = j + (i + 1) by omega]; exact h4⟩
end
end Go.Proofs.YtigjjddblijpbaaGreatDoor.Ex
