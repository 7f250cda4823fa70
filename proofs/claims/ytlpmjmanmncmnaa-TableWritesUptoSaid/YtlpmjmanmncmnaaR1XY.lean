/-
How a number is read, by the document: the walk of the reader's next.
-/
import Derived.Test.YtlpmjmanmncmnaaR1XV
import Derived.Test.YtlpmjmanmncmnaaR1TX
set_option linter.unusedSimpArgs false
set_option linter.unusedVariables false
namespace Go.Proofs.Ytlpmjmanmncmnaa.Tab
open Go.RowKit Go.Maps Go.Proofs.YtlpmjmanmncmnaaW.PrintWords Go.Proofs.YtlpmjmanmncmnaaW.PrintLast Go.Proofs.YtlpmjmanmncmnaaW.PrintMore Go.Proofs.Ytlpmjmanmncmnaa.Fr Go.Proofs.Ytlpmjmanmncmnaa.PT
/-- The document's reader, in memory. -/
def RdAt (w : World) (g : Nat) (b : List Int) (p : Nat) (bad : Bool) : Prop := p ≤ b.length ∧ ∃ (A : Option Addr) (c : Nat), w.heap[g]? = some (.cells #[.slice A b.length c, .int .i64 p, .bool bad] 103) ∧ Kd.C (Kd.int .u8) w A b.length b ∧ b.length ≤ c ∧ ∀ ad, A = some ad → 0 < b.length → ad.block < g
theorem RdAt.fr {w w1 : World} {g : Nat} {b : List Int} {p : Nat} {bad : Bool} {S : Nat → Prop} (h : RdAt w g b p bad) (hF : Fr S w w1) (hS : ∀ k, k ≤ g → ¬ S k) : RdAt w1 g b p bad := by
  obtain ⟨h0, A, c, h1, h2, h3, h4⟩ := h
  exact ⟨h0, A, c, hF.blk h1 (hS g (Nat.le_refl _)), hF.C 0 h2 (fun ad e hp => hS _ (Nat.le_of_lt (h4 ad e hp))), h3, h4⟩
def NextPost (w : World) (g : Nat) (b : List Int) (p : Nat) (bad : Bool) (e : Ending) (w' : World) : Prop :=
  ∃ (v p' : Nat) (bad' : Bool), e = .returned (.int .i64 v) ∧ v ≤ 2147483647 ∧ RdAt w' g b p' bad' ∧ NumRel (b.drop p) bad v (b.drop p') bad' ∧ Fr (fun k => k = g) w w'
theorem add_num {i : Nat} (hi : i < 6) {s : Int} (x : Int) (hs0 : 0 ≤ s) (hs : s < 128 ^ i) :
    wrap64 (s + wrap64 (x % 128 * 2 ^ (7 * i))) = s + x % 128 * 128 ^ i := by
  have hp : (1 : Int) ≤ 128 ^ i ∧ (128 : Int) ^ i ≤ 34359738368 := by
    rcases (by omega : i = 5 ∨ i = 4 ∨ i = 3 ∨ i = 2 ∨ i = 1 ∨ i = 0) with rfl | rfl | rfl | rfl | rfl | rfl <;> decide
  have h1 : 0 ≤ x % 128 * 128 ^ i := Int.mul_nonneg (by omega) (by omega)
  have h2 : x % 128 * 128 ^ i ≤ 127 * 128 ^ i := Int.mul_le_mul_of_nonneg_right (by omega) (by omega)
  rw [pow128_2, show wrap64 (x % 128 * 128 ^ i) = x % 128 * 128 ^ i by simp only [wrap64]; omega]
  simp only [wrap64]
  omega
theorem goN_big {k i : Nat} {s : Int} {l : List Int} (hb : Bts l) (hs : mostN < s) : goN k i s l = none := by
  cases h : goN k i s l with
  | none => rfl
  | some y =>
    obtain ⟨v, r⟩ := y
    obtain ⟨m, _, h2, h3, _⟩ := goN_some k i s l v r hb h
    have : (0 : Int) ≤ m * 128 ^ i := Int.mul_nonneg (Int.natCast_nonneg _) (Int.pow_nonneg (by decide))
    omega
set_option maxHeartbeats 8000000 in
set_option maxRecDepth 100000 in
theorem next_calls (w : World) (g : Nat) (b : List Int) (p : Nat) (bad : Bool) (h : RdAt w g b p bad) (hb : Bts b) :
    Calls Try.prog 48 #[.pointer (some ⟨g, 0, none⟩)] w (NextPost w g b p bad) := by
  have hrd := h
  obtain ⟨hp, A, c, hblk, hC, hbc, hA⟩ := h
  have hmx := Kd.C_max hC
  have k0 := (blk_cell hblk 0).trans (show _ = some (Value.slice A b.length c) from rfl)
  have k1 := (blk_cell hblk 1).trans (show _ = some (Value.int .i64 p) from rfl)
  have k2 := (blk_cell hblk 2).trans (show _ = some (Value.bool bad) from rfl)
  have hf1 := blk_frozen hblk 1
  have hf2 := blk_frozen hblk 2
  have HCB := Aside0.mk hC
  have HBT := Aside0.mk hb
  have HBAD := Aside0.mk (show (bad = true ∨ numOf (b.drop p) = none) → NextPost w g b p bad (.returned (.int .i64 0)) (w.setCell ⟨g, 2, none⟩ (.bool true)) from fun hn => by
    have hF : Fr (fun k => k = g) w (w.setCell ⟨g, 2, none⟩ (.bool true)) := (Fr.refl _ w).set _ (fun _ => rfl)
    exact ⟨0, p, true, rfl, by omega, ⟨hp, A, c, blk_put hblk 2 (.bool true) rfl, hF.C 0 hC (fun ad h1 h2 => Nat.ne_of_lt (hA ad h1 h2)), hbc, hA⟩, .inl ⟨rfl, hn⟩, hF⟩)
  have HOK := Aside0.mk (show ∀ (v q : Nat), bad = false → v ≤ 2147483647 → q ≤ b.length → numOf (b.drop p) = some ((v : Int), b.drop q) → NextPost w g b p bad (.returned (.int .i64 v)) (w.setCell ⟨g, 1, none⟩ (.int .i64 q)) from fun v q hbad hv hq hn => by
    have hF : Fr (fun k => k = g) w (w.setCell ⟨g, 1, none⟩ (.int .i64 q)) := (Fr.refl _ w).set _ (fun _ => rfl)
    exact ⟨v, q, false, rfl, hv, ⟨hq, A, c, (blk_put hblk 1 (.int .i64 q) rfl).trans (by rw [hbad]; rfl), hF.C 0 hC (fun ad h1 h2 => Nat.ne_of_lt (hA ad h1 h2)), hbc, hA⟩, .inr ⟨hbad, rfl, hn⟩, hF⟩)
  have hpb : p ≤ b.length := hp
  clear hblk hC hb hA hrd hp
  go_enter Try.func48, Try.ntmps48
  go_wp2_with (fail)
  go_loopw [3, 4, 5] (fun a s5 q W => ∃ (i : Nat) (s : Int), a = .int .i64 s ∧ s5 = .int .i64 ((7 * i : Nat) : Int) ∧ q = .int .i64 ((p + i : Nat) : Int) ∧ i ≤ 5 ∧ p + i ≤ b.length ∧ 0 ≤ s ∧ Aside0 (s < 128 ^ i) ∧ s ≤ 2147483647 ∧ Aside0 ((bad = true ∧ i = 0) ∨ (bad = false ∧ goN (5 - i) i s (b.drop (p + i)) = numOf (b.drop p))) ∧ W = w) (fun _ _ q _ => b.length - (intOf q).toNat)
  case atStart =>
    refine ⟨0, 0, rfl, rfl, rfl, by omega, by omega, by omega, ⟨by decide⟩, by omega, ⟨?_⟩, rfl⟩
    cases bad with
    | true => exact .inl ⟨rfl, rfl⟩
    | false => exact .inr ⟨rfl, rfl⟩
  case round =>
    obtain ⟨i, s, rfl, rfl, rfl, hi5, hil, hs0, HS, hsm, HG, rfl⟩ := hrel
    by_cases hlt : p + i < b.length
    case neg =>
      have HN := Aside0.mk (show bad = true ∨ numOf (b.drop p) = none from by
        rcases HG.out with ⟨h, _⟩ | ⟨_, h⟩
        · exact .inl h
        · rw [List.drop_of_length_le (by omega), goN_nil] at h
          exact .inr h.symm)
      go_wp2_with (fail)
      go_ret
      exact HBAD.out HN.out
    cases bad with
    | true =>
      go_wp2_with (fail)
      go_ret
      exact HBAD.out (.inl (by first | rfl | trivial))
    | false =>
    have HGO := Aside0.mk (show goN (5 - i) i s (b.drop (p + i)) = numOf (b.drop p) from by
      rcases HG.out with ⟨h, _⟩ | ⟨_, h⟩
      · cases h
      · exact h)
    obtain ⟨adr, rfl, hx0⟩ := Kd.at_int HCB.out ((p + i : Nat) : Int) (by omega) (by omega)
    simp only [Int.toNat_natCast] at hx0
    have HX := Aside0.mk (HBT.out _ (mem_int.2 ⟨p + i, hlt, rfl⟩))
    have HD := Aside0.mk (drop_int hlt)
    generalize rd b ((p + i : Nat) : Int) = x at hx0 HX HD
    have HAN := Aside0.mk (add_num (i := i) (by omega) x hs0 HS.out)
    have hx1 := HX.out.1
    have hx2 := HX.out.2
    go_upto_region 7 with (fail)
    obtain ⟨s', hs'⟩ : ∃ s', wrap64 (s + wrap64 (x % 128 * 2 ^ (7 * i))) = s' := ⟨_, rfl⟩
    simp only [hs']
    have HS' := Aside0.mk (show s' = s + x % 128 * 128 ^ i from by rw [← hs', HAN.out])
    clear hs' HAN
    by_cases hi : i < 5
    case neg =>
      have HN := Aside0.mk (show numOf (b.drop p) = none from by
        have h := HGO.out
        rw [show 5 - i = 0 by omega] at h
        exact h.symm)
      obtain rfl : i = 5 := by omega
      by_cases c1 : s' > 2147483647
      · go_wp2_with (fail)
        go_ret
        exact HBAD.out (.inr HN.out)
      · go_wp2_with (fail)
        go_ret
        exact HBAD.out (.inr HN.out)
    have hsh : ¬ (7 * (i : Int) + 7 > 35) := by omega
    have HBR := Aside0.mk (show Bts (b.drop (p + i + 1)) from fun y hy => HBT.out y (List.mem_of_mem_drop hy))
    by_cases c1 : s' > 2147483647
    · have HN := Aside0.mk (show numOf (b.drop p) = none from by
        have h := HGO.out
        rw [HD.out, show 5 - i = (4 - i) + 1 by omega, goN] at h
        rw [← h]
        split
        · rename_i hx
          rw [if_pos (.inr (by rw [show s + x * 128 ^ i = s' by rw [HS'.out, show x % 128 = x by omega]]; simp only [mostN]; omega))]
        · rename_i hx
          rw [show s + (x - 128) * 128 ^ i = s' by rw [HS'.out, show x % 128 = x - 128 by omega]]
          exact goN_big HBR.out (by simp only [mostN]; omega))
      go_wp2_with (fail)
      go_ret
      exact HBAD.out (.inr HN.out)
    by_cases cx : x < 128
    · have HGN := Aside0.mk (show numOf (b.drop p) = if (x = 0 ∧ 0 < i) ∨ mostN < s' then none else some (s', b.drop (p + i + 1)) from by
        have h := HGO.out
        rw [HD.out, show 5 - i = (4 - i) + 1 by omega, goN, if_pos cx, show s + x * 128 ^ i = s' by rw [HS'.out, show x % 128 = x by omega]] at h
        exact h.symm)
      by_cases c2 : x = 0 ∧ 0 < i
      · have HN := Aside0.mk (HGN.out.trans (if_pos (.inl c2)))
        obtain ⟨rfl, c3⟩ := c2
        have c3b : decide ((p : Int) + i > p) = true := decide_eq_true (by omega)
        go_wp2_with (fail)
        go_ret
        exact HBAD.out (.inr HN.out)
      · have hs0' : 0 ≤ s' := by
          rw [HS'.out]
          have : (0 : Int) ≤ x % 128 * 128 ^ i := Int.mul_nonneg (by omega) (by have := pow128_le hi; omega)
          omega
        have HN := Aside0.mk (HGN.out.trans (if_neg (fun h => h.elim c2 (fun h => by simp only [mostN] at h; omega))))
        have HFIN := Aside0.mk (show NextPost wr g b p false (.returned (.int .i64 s')) (wr.setCell ⟨g, 1, none⟩ (.int .i64 ((p : Int) + i + 1))) from by
          have h := HOK.out s'.toNat (p + i + 1) rfl (by omega) (by omega) (by rw [show ((s'.toNat : Nat) : Int) = s' by omega]; exact HN.out)
          rwa [show ((s'.toNat : Nat) : Int) = s' by omega, show ((p + i + 1 : Nat) : Int) = (p : Int) + i + 1 by omega] at h)
        by_cases c4 : x = 0
        · have c5 : i = 0 := by omega
          subst c4 c5
          simp only [Nat.add_zero] at hx0
          have HFIN0 := Aside0.mk (show NextPost wr g b p false (.returned (.int .i64 s')) (wr.setCell ⟨g, 1, none⟩ (.int .i64 ((p : Int) + 1))) from by
            have h := HFIN.out
            rwa [show (p : Int) + ((0 : Nat) : Int) + 1 = (p : Int) + 1 by omega] at h)
          go_wp2_with (fail)
          go_ret
          exact HFIN0.out
        · have c4b : (x == 0) = false := beq_eq_false_iff_ne.2 c4
          clear c2 c4
          go_wp2_with (fail)
          go_ret
          exact HFIN.out
    · have HGN := Aside0.mk (show goN (5 - (i + 1)) (i + 1) s' (b.drop (p + (i + 1))) = numOf (b.drop p) from by
        have h := HGO.out
        rw [HD.out, show 5 - i = (5 - (i + 1)) + 1 by omega, goN, if_neg cx, show s + (x - 128) * 128 ^ i = s' by rw [HS'.out, show x % 128 = x - 128 by omega]] at h
        exact h)
      have HSL := Aside0.mk (show 0 ≤ s' ∧ s' < 128 ^ (i + 1) from by
        have hp := pow128_le hi
        have hs1 := HS.out
        have h1 : 0 ≤ x % 128 * 128 ^ i := Int.mul_nonneg (by omega) (by omega)
        have h2 : x % 128 * 128 ^ i ≤ 127 * 128 ^ i := Int.mul_le_mul_of_nonneg_right (by omega) (by omega)
        rw [HS'.out, pow_succ128]
        omega)
      go_wp2_with (fail)
      exact ⟨⟨i + 1, s', rfl, by go_num, by go_num, by omega, by omega, HSL.out.1, ⟨HSL.out.2⟩, by omega, ⟨.inr ⟨by first | rfl | trivial, HGN.out⟩⟩, trivial⟩, by simp [intOf]; omega⟩
end Go.Proofs.Ytlpmjmanmncmnaa.Tab
