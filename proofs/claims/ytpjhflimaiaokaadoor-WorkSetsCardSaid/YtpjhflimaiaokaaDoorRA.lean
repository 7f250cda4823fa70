/-
The reference's sets: Numbers, Has and Same, walked.
-/
import Derived.Test.YtpjhflimaiaokaaDoorSB
namespace Go.Proofs.YtpjhflimaiaokaaDoor.RSet
open Go.RowKit Go.Proofs.YtpjhflimaiaokaaDoorW.PrintWords Go.Proofs.YtpjhflimaiaokaaDoorW.PrintLast Go.Proofs.YtpjhflimaiaokaaDoorW.PrintMore Go.Proofs.YtpjhflimaiaokaaDoor.Fr Go.Proofs.YtpjhflimaiaokaaDoor.Sets Go.Proofs.YtpjhflimaiaokaaDoor.SetW

def NumbersPost (ys : List Int) (e : Ending) : Prop := ∃ b, e = .returned (.bool b) ∧ (b = true ↔ ∀ y, y ∈ ys → isNum y = true)
theorem numbers_no {ys : List Int} {y : Int} (hy : y ∈ ys) (hn : isNum y = false) : NumbersPost ys (.returned (.bool false)) := ⟨false, rfl, ⟨fun h => absurd h (by decide), fun h => by rw [h y hy] at hn; cases hn⟩⟩
set_option maxRecDepth 100000 in
theorem numbers_calls (w : World) (ys : List Int) (A : Option Addr) (c : Nat) (hA : kI.C w A ys.length ys) :
    Calls Tryd.prog 8 #[.slice A ys.length c] w fun e w' => NumbersPost ys e ∧ w = w' := by
  have hm := Kd.C_max hA
  go_enter Tryd.func8, Tryd.ntmps8
  go_wp2_with (fail)
  go_loop [3] (fun a => ∃ k : Nat, a = .int .i64 k ∧ k ≤ ys.length ∧ Aside0 (∀ j : Nat, j < k → isNum (rd ys j) = true)) (fun a => ys.length - (intOf a).toNat)
  case atStart => exact ⟨0, rfl, Nat.zero_le _, ⟨fun j hj => by omega⟩⟩
  case round =>
    obtain ⟨k, rfl, hk, HK⟩ := hrel
    by_cases hlt : k < ys.length
    · obtain ⟨ad, rfl, hx⟩ := Kd.at_int hA (k : Int) (by omega) (by omega)
      simp only [Int.toNat_natCast] at hx
      by_cases h0 : rd ys (k : Int) < 0
      · go_wp2_with (fail)
        go_ret
        exact ⟨numbers_no (mem_iff_rd.2 ⟨k, hlt, rfl⟩) (by simp [isNum]; omega), rfl⟩
      · by_cases h1 : 1048576 ≤ rd ys (k : Int)
        · go_wp2_with (fail)
          go_ret
          exact ⟨numbers_no (mem_iff_rd.2 ⟨k, hlt, rfl⟩) (by simp [isNum]; omega), rfl⟩
        · have HN := Lib.hid (show isNum (rd ys (k : Int)) = true by simp [isNum]; omega)
          go_wp2_with (fail)
          exact ⟨⟨k + 1, by go_num, by omega, ⟨fun j hj => by
            by_cases e : j = k
            · rw [e]; exact HN.out
            · exact HK.out j (by omega)⟩⟩, by simp [intOf]; omega⟩
    · have HN := Aside0.mk (show ∀ y, y ∈ ys → isNum y = true from fun y hy => by
        obtain ⟨j, hj, rfl⟩ := mem_iff_rd.1 hy
        exact HK.out j (by omega))
      go_wp2_with (fail)
      go_ret
      exact ⟨⟨true, rfl, ⟨fun _ => HN.out, fun _ => rfl⟩⟩, rfl⟩

set_option maxRecDepth 100000 in
theorem rhas_calls (w : World) (ys : List Int) (A : Option Addr) (c : Nat) (n : Int) (hA : kI.C w A ys.length ys) :
    Calls Tryd.prog 40 #[.agg #[.slice A ys.length c], .int .i64 n] w fun e w' => e = .returned (.bool (decide (n ∈ ys))) ∧ Fr (fun _ => False) w w' := by
  have hm := Kd.C_max hA
  have hu := Tryd.underlying40
  go_enter Tryd.func40, Tryd.ntmps40
  go_wp2_with (fail)
  go_loop [5] (fun a => ∃ k : Nat, a = .int .i64 k ∧ k ≤ ys.length ∧ Aside0 (∀ j : Nat, j < k → rd ys j ≠ n)) (fun a => ys.length - (intOf a).toNat)
  case atStart => exact ⟨0, rfl, Nat.zero_le _, ⟨fun j hj => by omega⟩⟩
  case round =>
    obtain ⟨k, rfl, hk, HK⟩ := hrel
    by_cases hlt : k < ys.length
    · obtain ⟨ad, rfl, hx⟩ := Kd.at_int hA (k : Int) (by omega) (by omega)
      simp only [Int.toNat_natCast] at hx
      have hx2 : (w.alloc (.cells #[.slice (some ad) ys.length c] 40)).cell? (ad.add k) = some (.int .i64 (rd ys k)) := ((Fr.refl (fun _ => False) w).alloc _).cell hx id
      by_cases he : rd ys (k : Int) = n
      · have HE := Lib.hid (show decide (n ∈ ys) = true from decide_eq_true (mem_iff_rd.2 ⟨k, hlt, he⟩))
        have heb := beq_iff_eq.mpr he
        clear he
        go_wp2_with (fail)
        go_ret
        exact ⟨ret_b HE.out.symm, (Fr.refl _ _).alloc _⟩
      · have heb := beq_eq_false_iff_ne.mpr he
        have HE := Lib.hid he
        clear he
        go_wp2_with (fail)
        exact ⟨⟨k + 1, by go_num, by omega, ⟨fun j hj => by
            by_cases e : j = k
            · rw [e]; exact HE.out
            · exact HK.out j (by omega)⟩⟩, by simp [intOf]; omega⟩
    · have HE := Lib.hid (show decide (n ∈ ys) = false from decide_eq_false (fun hm => by
        obtain ⟨j, hj, e⟩ := mem_iff_rd.1 hm
        exact HK.out j (by omega) e))
      go_wp2_with (fail)
      go_ret
      exact ⟨ret_b HE.out.symm, (Fr.refl _ _).alloc _⟩

set_option maxRecDepth 100000 in
theorem same_calls (w : World) (xs ys : List Int) (A B : Option Addr) (c d : Nat) (hA : kI.C w A xs.length xs) (hB : kI.C w B ys.length ys) :
    Calls Tryd.prog 20 #[.slice A xs.length c, .slice B ys.length d] w fun e w' => e = .returned (.bool (decide (xs = ys))) ∧ Drawn0 w w' := by
  have hm := Kd.C_max hA
  have hm2 := Kd.C_max hB
  by_cases hl : xs.length = ys.length
  · have hlb : ((xs.length : Int) != (ys.length : Int)) = false := by rw [hl]; simp
    go_enter Tryd.func20, Tryd.ntmps20
    go_wp2_with (fail)
    go_loopw [5] (fun a W => ∃ k : Nat, a = .int .i64 k ∧ k ≤ xs.length ∧ Aside0 (∀ j : Nat, j < k → rd xs j = rd ys j) ∧ Drawn0 w W) (fun a _ => xs.length - (intOf a).toNat)
    case atStart => exact ⟨0, rfl, Nat.zero_le _, ⟨fun j hj => by omega⟩, Drawn0.refl _⟩
    case round =>
      obtain ⟨k, rfl, hk, HK, ⟨q, rfl⟩⟩ := hrel
      by_cases hlt : k < xs.length
      · obtain ⟨ad, rfl, hx⟩ := Kd.at_int hA (k : Int) (by omega) (by omega)
        obtain ⟨bd, rfl, hy⟩ := Kd.at_int hB (k : Int) (by omega) (by omega)
        simp only [Int.toNat_natCast] at hx hy
        have hx2 : (w.drewN q).cell? (ad.add k) = some (.int .i64 (rd xs k)) := hx
        have hy2 : (w.drewN q).cell? (bd.add k) = some (.int .i64 (rd ys k)) := hy
        have hlt2 : k < ys.length := by omega
        by_cases he : rd xs (k : Int) = rd ys (k : Int)
        · have HE := Lib.hid he
          have heb : (rd xs (k : Int) != rd ys (k : Int)) = false := by rw [he]; simp
          clear he
          go_wp2_with (fail)
          go_quiet (fail)
          go_wp2_with (fail)
          exact ⟨⟨k + 1, by go_num, by omega, ⟨fun j hj => by
            by_cases e : j = k
            · rw [e]; exact HE.out
            · exact HK.out j (by omega)⟩, ⟨_, rfl⟩⟩, by simp [intOf]; omega⟩
        · have HE := Lib.hid (show decide (xs = ys) = false from decide_eq_false (fun e => he (by rw [e])))
          have heb : (rd xs (k : Int) != rd ys (k : Int)) = true := by simp [he]
          clear he
          go_wp2_with (fail)
          go_quiet (fail)
          go_wp2_with (fail)
          go_ret
          exact ⟨ret_b HE.out.symm, Drawn0.step ⟨_, rfl⟩ _⟩
      · have HE := Lib.hid (show decide (xs = ys) = true from decide_eq_true (List.ext_getElem hl (fun i h1 h2 => by
          have := HK.out i (by omega)
          simpa [rd, List.getD_eq_getElem?_getD, h1, h2] using this)))
        go_wp2_with (fail)
        go_ret
        exact ⟨ret_b HE.out.symm, ⟨_, rfl⟩⟩
  · have hlb : ((xs.length : Int) != (ys.length : Int)) = true := by simp; omega
    have HE := Lib.hid (show decide (xs = ys) = false from decide_eq_false (fun e => hl (by rw [e])))
    go_enter Tryd.func20, Tryd.ntmps20
    go_wp2_with (fail)
    go_ret
    exact ⟨ret_b HE.out.symm, Drawn0.refl _⟩
end Go.Proofs.YtpjhflimaiaokaaDoor.RSet
