/-
How a number is read: the walk of table.input's number.
-/
import Derived.Deep.QuietTactic
import Derived.BigQuiet
import Derived.WalkArith
import Derived.IntWalk
import Derived.Test.YtlpmjmanmncmnaaR1XT
import Derived.Test.YtlpmjmanmncmnaaR1TK
import Derived.Test.YtlpmjmanmncmnaaR1XD
set_option linter.unusedSimpArgs false
set_option linter.unusedVariables false
namespace Go.Proofs.Ytlpmjmanmncmnaa.Tab
open Go.RowKit Go.Maps Go.Proofs.YtlpmjmanmncmnaaW.PrintWords Go.Proofs.YtlpmjmanmncmnaaW.PrintLast Go.Proofs.YtlpmjmanmncmnaaW.PrintMore Go.Proofs.Ytlpmjmanmncmnaa.Fr Go.Proofs.Ytlpmjmanmncmnaa.PT
theorem pow128_2 (i : Nat) : (2 : Int) ^ (7 * i) = 128 ^ i := by rw [Int.pow_mul]; rfl
theorem pow128_le {i : Nat} (hi : i < 5) : (1 : Int) ≤ 128 ^ i ∧ (128 : Int) ^ i ≤ 268435456 := by
  rcases (by omega : i = 4 ∨ i = 3 ∨ i = 2 ∨ i = 1 ∨ i = 0) with rfl | rfl | rfl | rfl | rfl <;> decide
theorem or_num {i : Nat} (hi : i < 5) {s x : Int} (hs0 : 0 ≤ s) (hs : s < 128 ^ i) (hx0 : 0 ≤ x) (hx1 : x < 256) :
    Go.bits .or .i64 s (wrap64 (wrap64 (Go.bits .and .u8 x 127) * 2 ^ (7 * i))) = s + x % 128 * 128 ^ i := by
  have hand : Go.bits .and .u8 x 127 = x % 128 := bits_mask .u8 8 (by decide) wraps_u8 7 (by decide) x hx0 hx1
  have hp := pow128_le hi
  rw [hand, pow128_2, show wrap64 (x % 128) = x % 128 by simp only [wrap64]; omega]
  obtain ⟨a, rfl⟩ := Int.eq_ofNat_of_zero_le hs0
  obtain ⟨y, hy⟩ := Int.eq_ofNat_of_zero_le (show 0 ≤ x % 128 by omega)
  have hy1 : y < 128 := by omega
  rw [hy]
  have ha : a < 128 ^ i := by exact_mod_cast hs
  have ec : (128 : Int) ^ i = ((128 ^ i : Nat) : Int) := by simp
  rw [ec] at hp ⊢
  have e2 : (128 : Nat) ^ i = 2 ^ (7 * i) := by rw [Nat.pow_mul]
  have hmul : y * 128 ^ i ≤ 127 * 128 ^ i := Nat.mul_le_mul_right _ (by omega)
  have ec2 : (y : Int) * ((128 ^ i : Nat) : Int) = ((y * 128 ^ i : Nat) : Int) := by simp
  rw [ec2, show wrap64 ((y * 128 ^ i : Nat) : Int) = ((y * 128 ^ i : Nat) : Int) by simp only [wrap64]; omega]
  have hw : ∀ n : Int, 0 ≤ n → n < 2 ^ 63 → IntKind.i64.wrap n = n := fun n h0 h1 => by rw [IntKind.wrap_i64]; omega
  rw [(bits_nat .i64 63 (by decide) hw a (y * 128 ^ i) (by omega) (by omega)).2, Nat.or_comm, Nat.mul_comm, e2, ← Nat.two_pow_add_eq_or_of_lt (by rw [← e2]; exact ha) y]
  simp only [Int.natCast_add, Int.natCast_mul]
  rw [Int.add_comm]
theorem goN_nil (k i : Nat) (s : Int) : goN k i s [] = none := by cases k <;> rfl
/-- Bytes that are read, in memory: what is left of them, and whether they are not what they should be. -/
def InAt (w : World) (g : Nat) (l : List Int) (bad : Bool) : Prop := ∃ (A : Option Addr) (c : Nat), w.heap[g]? = some (.cells #[.slice A l.length c, .bool bad] 100) ∧ Kd.C (Kd.int .u8) w A l.length l ∧ l.length ≤ c ∧ ∀ ad, A = some ad → 0 < l.length → ad.block < g
def NumPost (w : World) (g : Nat) (l : List Int) (bad : Bool) (e : Ending) (w' : World) : Prop :=
  ((∃ (v : Int) (r : List Int), numOf l = some (v, r) ∧ e = .returned (.int .i64 v) ∧ InAt w' g r bad) ∨ (numOf l = none ∧ e = .returned (.int .i64 0) ∧ InAt w' g l true)) ∧ Fr (fun k => k = g) w w'
set_option maxHeartbeats 8000000 in
set_option maxRecDepth 100000 in
theorem number_calls (w : World) (g : Nat) (l : List Int) (bad : Bool) (h : InAt w g l bad) (hb : Bts l) :
    Calls Try.prog 47 #[.pointer (some ⟨g, 0, none⟩)] w (NumPost w g l bad) := by
  obtain ⟨A, c, hblk, hC, hlc, hA⟩ := h
  have hmx := Kd.C_max hC
  have k0 := (blk_cell hblk 0).trans (show _ = some (Value.slice A l.length c) from rfl)
  have k1 := (blk_cell hblk 1).trans (show _ = some (Value.bool bad) from rfl)
  have hf0 := blk_frozen hblk 0
  have hf1 := blk_frozen hblk 1
  have HB := Aside0.mk hblk
  have HCB := Aside0.mk hC
  have HBT := Aside0.mk hb
  have HA := Aside0.mk hA
  have hbad : numOf l = none → NumPost w g l bad (.returned (.int .i64 0)) (w.setCell ⟨g, 1, none⟩ (.bool true)) := fun hn => by
    have hF : Fr (fun k => k = g) w (w.setCell ⟨g, 1, none⟩ (.bool true)) := (Fr.refl _ w).set _ (fun _ => rfl)
    exact ⟨.inr ⟨hn, rfl, A, c, blk_put hblk 1 (.bool true) rfl, hF.C 0 hC (fun ad h1 h2 => Nat.ne_of_lt (hA ad h1 h2)), hlc, hA⟩, hF⟩
  have HBAD := Aside0.mk hbad
  clear hblk hC hb hA hbad
  go_enter Try.func47, Try.ntmps47
  go_wp2_with (fail)
  go_loopw [3, 4] (fun a b W => ∃ (i : Nat) (s : Int), a = .int .i64 s ∧ b = .int .i64 i ∧ i ≤ 5 ∧ i ≤ l.length ∧ 0 ≤ s ∧ Aside0 (s < 128 ^ i) ∧ Aside0 (goN (5 - i) i s (l.drop i) = numOf l) ∧ W = w) (fun _ b _ => l.length - (intOf b).toNat)
  case atStart => exact ⟨0, 0, rfl, rfl, by omega, by omega, by omega, ⟨by decide⟩, ⟨rfl⟩, rfl⟩
  case round =>
    obtain ⟨i, s, rfl, rfl, hi5, hil, hs0, HS, HG, rfl⟩ := hrel
    by_cases hlt : i < l.length
    · obtain ⟨adr, rfl, hx0⟩ := Kd.at_int HCB.out (i : Int) (by omega) (by omega)
      simp only [Int.toNat_natCast] at hx0
      have HX := Aside0.mk (HBT.out _ (mem_int.2 ⟨i, hlt, rfl⟩))
      have HD := Aside0.mk (drop_int hlt)
      generalize rd l i = x at hx0 HX HD
      by_cases hi : i < 5
      case neg =>
        have HN := Aside0.mk (show numOf l = none from by
          have := HG.out
          rw [show 5 - i = 0 by omega] at this
          rw [← this]
          rfl)
        go_wp2_with (fail)
        go_ret
        exact HBAD.out HN.out
      have HOR := Aside0.mk (or_num hi hs0 HS.out HX.out.1 HX.out.2)
      have hlt2 : (i : Int) + 1 ≤ l.length := by omega
      have hi0 : Try.prog.info? 5 = some ((Try.prog.info? 5).get (by kernel_rfl)) := by kernel_rfl
      have hcut := cut_from (P := Try.prog) 54 5 .i64 Try.underlying54 hi0 1 (by kernel_rfl) (some adr) l.length c ((i : Int) + 1) (by omega) hlt2
      rw [show ((i : Int) + 1).toNat = i + 1 by omega] at hcut
      obtain ⟨A1, hA1⟩ : ∃ A1, (if c = i + 1 then some adr else (some adr).map (·.add ((i + 1) * 1))) = A1 := ⟨_, rfl⟩
      obtain ⟨n1, hn1⟩ : ∃ n1, l.length - (i + 1) = n1 := ⟨_, rfl⟩
      obtain ⟨c1, hc1⟩ : ∃ c1, c - (i + 1) = c1 := ⟨_, rfl⟩
      have HAN := Aside0.mk (And.intro hA1 (And.intro hn1 hc1))
      rw [hA1, hn1, hc1] at hcut
      clear hi0 hA1 hn1 hc1
      go_upto_region 7 with (fail)
      obtain ⟨s', hs'⟩ : ∃ s', Go.bits .or .i64 s (wrap64 (wrap64 (Go.bits .and .u8 x 127) * 2 ^ (7 * i))) = s' := ⟨_, rfl⟩
      simp only [hs']
      have HS' := Aside0.mk (show s' = s + x % 128 * 128 ^ i from by rw [← hs', HOR.out])
      clear hs' HOR
      by_cases cx : x < 128
      · have HGO := Aside0.mk (show numOf l = if (x = 0 ∧ 0 < i) ∨ mostN < s' then none else some (s', l.drop (i + 1)) from by
          have := HG.out
          rw [HD.out, show 5 - i = (4 - i) + 1 by omega, goN, if_pos cx, show s + x * 128 ^ i = s' by rw [HS'.out, show x % 128 = x by have := HX.out; omega]] at this
          exact this.symm)
        by_cases c2 : x = 0 ∧ 0 < i
        · have HN := Aside0.mk (HGO.out.trans (if_pos (.inl c2)))
          obtain ⟨rfl, c3⟩ := c2
          have c3b : decide ((i : Int) > 0) = true := decide_eq_true (by omega)
          go_wp2_with (fail)
          go_ret
          exact HBAD.out HN.out
        · have HC2 := Aside0.mk c2
          by_cases c3 : s' > 2147483647
          · have HN := Aside0.mk (HGO.out.trans (if_pos (.inr c3)))
            by_cases c4 : x = 0
            · have c5 : i = 0 := by omega
              subst c4 c5
              go_wp2_with (fail)
              go_ret
              exact HBAD.out HN.out
            · have c4b : (x == 0) = false := beq_eq_false_iff_ne.2 c4
              clear c2 c4
              go_wp2_with (fail)
              go_ret
              exact HBAD.out HN.out
          · have HN := Aside0.mk (HGO.out.trans (if_neg (fun h => h.elim c2 (fun h => c3 (by simp only [mostN] at h; omega)))))
            have HFIN := Aside0.mk (show NumPost wr g l bad (.returned (.int .i64 s')) (wr.setCell ⟨g, 0, none⟩ (.slice A1 n1 c1)) from by
              obtain ⟨hA1, hn1, hc1⟩ := HAN.out
              have hF : Fr (fun k => k = g) wr (wr.setCell ⟨g, 0, none⟩ (.slice A1 n1 c1)) := (Fr.refl _ wr).set _ (fun _ => rfl)
              have hCd := Kd.C_drop HCB.out (m := i + 1) (by omega) hlc
              have hbl : ∀ ad, A1 = some ad → 0 < (l.drop (i + 1)).length → ad.block < g := fun ad h1 h2 => by
                have := HA.out adr rfl (by omega)
                rw [← hA1] at h1
                split at h1
                · injection h1 with h1
                  rw [← h1]
                  exact this
                · injection h1 with h1
                  rw [← h1, Fr.add_block]
                  exact this
              refine ⟨.inl ⟨s', l.drop (i + 1), HN.out, rfl, A1, c1, (blk_put HB.out 0 _ rfl).trans ?_, hF.C 0 (by rw [← hA1]; exact hCd) (fun ad h1 h2 => Nat.ne_of_lt (hbl ad h1 h2)), by rw [List.length_drop]; omega, hbl⟩, hF⟩
              rw [List.length_drop, hn1]
              rfl)
            by_cases c4 : x = 0
            · have c5 : i = 0 := by omega
              subst c4 c5
              rw [show ((0 : Nat) : Int) + 1 = 1 from rfl] at hcut
              go_wp2_with (fail)
              go_ret
              exact HFIN.out
            · have c4b : (x == 0) = false := beq_eq_false_iff_ne.2 c4
              clear c2 c4
              go_wp2_with (fail)
              go_ret
              exact HFIN.out
      · have HGO := Aside0.mk (show goN (5 - (i + 1)) (i + 1) s' (l.drop (i + 1)) = numOf l from by
          have := HG.out
          rw [HD.out, show 5 - i = (5 - (i + 1)) + 1 by omega, goN, if_neg cx, show s + (x - 128) * 128 ^ i = s' by rw [HS'.out, show x % 128 = x - 128 by have := HX.out; omega]] at this
          exact this)
        have HSL := Aside0.mk (show 0 ≤ s' ∧ s' < 128 ^ (i + 1) from by
          have hp := pow128_le hi
          have hs1 := HS.out
          have h1 : 0 ≤ x % 128 * 128 ^ i := Int.mul_nonneg (by omega) (by omega)
          have h2 : x % 128 * 128 ^ i ≤ 127 * 128 ^ i := Int.mul_le_mul_of_nonneg_right (by omega) (by omega)
          rw [HS'.out, pow_succ128]
          omega)
        go_wp2_with (fail)
        exact ⟨⟨i + 1, s', rfl, by go_num, by omega, by omega, HSL.out.1, ⟨HSL.out.2⟩, HGO, trivial⟩, by simp [intOf]; omega⟩
    · have HN := Aside0.mk (show numOf l = none from by
        have := HG.out
        rw [List.drop_of_length_le (by omega), goN_nil] at this
        exact this.symm)
      go_wp2_with (fail)
      go_ret
      exact HBAD.out HN.out
end Go.Proofs.Ytlpmjmanmncmnaa.Tab
