/-
The set of numbers: New and Drop, walked.
-/
import Derived.Test.YtpjhflimaiaokaaDoorSB
import Derived.Test.YtpjhflimaiaokaaDoorProg
import Derived.Lib.Hide
import Derived.Outline
import Derived.IntWalk
import Derived.Deep.DeepMust
namespace Go.Proofs.YtpjhflimaiaokaaDoor.SetW
open Go.RowKit Go.Proofs.YtpjhflimaiaokaaDoorW.PrintWords Go.Proofs.YtpjhflimaiaokaaDoorW.PrintLast Go.Proofs.YtpjhflimaiaokaaDoorW.PrintMore Go.Proofs.YtpjhflimaiaokaaDoor.Fr Go.Proofs.YtpjhflimaiaokaaDoor.Sets



structure DropW (w : World) (B g : Nat) (sv : Value) (l ys : List Int) (A : Option Addr) (i : Nat) (cnt : Int) (W : World) : Prop where
  ex : ∃ l1 sv1, DropInv l ys l1 i ∧ cnt = (l.length : Int) - l1.length ∧ l1.length ≤ l.length ∧ Nums W B g sv1 l1 ∧ Fr (SFoot g sv) w W ∧ (sv1.ownBlock = sv.ownBlock ∨ ∃ b, sv1.ownBlock = some b ∧ w.heap.size ≤ b) ∧ Away W g sv1 A ys.length ys
def DropPost (w : World) (B g : Nat) (sv : Value) (l ys : List Int) (e : Ending) (w' : World) : Prop :=
  ∃ l', DropInv l ys l' ys.length ∧ l'.length ≤ l.length ∧ e = .returned (.int .i64 ((l.length : Int) - l'.length)) ∧ STurned w B g sv l' w'
theorem dropA (cap k gr : Nat) : (if cap = k + 1 then some (⟨gr, 0, none⟩ : Addr) else some ⟨gr, k + 1, none⟩) = if cap = k + 1 then some ⟨gr, 0, none⟩ else (some (⟨gr, 0, none⟩ : Addr)).map (·.add ((k + 1) * kI.sz)) := by
  simp [add_plain, show kI.sz = 1 from rfl]

set_option maxRecDepth 100000 in
set_option maxHeartbeats 1000000 in
theorem drop_calls (w : World) (B g : Nat) (sv : Value) (l ys : List Int) (A : Option Addr) (c : Nat) (h : Nums w B g sv l) (hB : B ≤ w.heap.size) (hl : Rising l) (hlen : l.length ≤ 1048576) (hA : Away w g sv A ys.length ys) :
    Calls Tryd.prog 27 #[.pointer (some ⟨g, 0, none⟩), .slice A ys.length c] w (DropPost w B g sv l ys) := by
  have hm := Kd.C_max hA.rd
  have hu := Tryd.underlying67
  have HA := Aside0.mk hA
  have HL := Aside0.mk hl
  have HH := Aside0.mk h
  clear hA hl h
  go_enter Tryd.func27, Tryd.ntmps27
  go_wp2_with (fail)
  go_loopw [11, 5, 7, 8] (fun a b _ _ W => ∃ (i : Nat) (cnt : Int), a = .int .i64 i ∧ b = .int .i64 cnt ∧ i ≤ ys.length ∧ 0 ≤ cnt ∧ cnt ≤ 1048576 ∧ Aside0 (DropW w B g sv l ys A i cnt W)) (fun a _ _ _ _ => ys.length - (intOf a).toNat)
  case atStart => exact ⟨0, 0, rfl, rfl, Nat.zero_le _, by omega, by omega, ⟨⟨l, sv, DropInv.start ys HL.out, by omega, Nat.le_refl _, HH.out, Fr.refl _ _, .inl rfl, HA.out⟩⟩⟩
  case round =>
    obtain ⟨i, cnt, rfl, rfl, hi, hc0, hc1, HW⟩ := hrel
    by_cases hil : i < ys.length
    · obtain ⟨l1, sv1, hinv, hcnt, hll, hN, hF, hO, hAw⟩ := HW.out.ex
      obtain ⟨ad, hAd, hx⟩ := Kd.at_int hAw.rd (i : Int) (by omega) (by omega)
      subst hAd
      simp only [Int.toNat_natCast] at hx
      have HI := Aside0.mk hinv
      have HC := Lib.hid hcnt
      have HT := Aside0.mk hN
      have HF := Aside0.mk hF
      have HO := Aside0.mk hO
      have HAw := Aside0.mk hAw
      clear hinv hcnt hN hF hO hAw HW
      by_cases hmem : rd ys (i : Int) ∈ l1
      · have HM := Lib.hid (decide_eq_true hmem)
        have HMM := Aside0.mk hmem
        clear hmem
        go_wp2_with (fail)
        refine (has_calls _ B g _ l1 _ HT.out HI.out.rise (by omega)).mono ?_
        rintro e W1 ⟨rfl, hd⟩
        rw [HM.out]
        have HT1 := Aside0.mk (HT.out.drawn hd)
        have HF1 := Aside0.mk (HF.out.drawn' hd)
        have HA1 := Aside0.mk (HAw.out.step (Fr.drawn hd) (.inl rfl))
        clear hd HT HF HAw
        go_wp2_with (fail)
        refine (place_calls _ B g _ l1 _ HT1.out HI.out.rise (by omega)).mono ?_
        rintro e W2 ⟨kk, rfl, hk, hd⟩
        obtain ⟨hkl, hke⟩ := (hk.mem HI.out.rise).1 HMM.out
        obtain ⟨k, rfl⟩ : ∃ k : Nat, kk = (k : Int) := ⟨kk.toNat, by have := hk.1; omega⟩
        have hkl : k < l1.length := by omega
        have HKE := Lib.hid hke
        obtain ⟨gr, cap, hsv, hgB, _⟩ := Kd.R_form HT1.out.row (by omega)
        subst hsv
        have HT2 := Aside0.mk (HT1.out.drawn hd)
        have HF2 := Aside0.mk (HF1.out.drawn' hd)
        have HA2 := Aside0.mk (HA1.out.step (Fr.drawn hd) (.inl rfl))
        have hcap : l1.length ≤ cap := (Kd.R_reads' HT2.out.row).2.1
        have hc2 := HT2.out.cell
        have hf2 := HT2.out.frozen
        clear hd hk HT1 HF1 HA1 hke
        have HBL := Aside0.mk (Nat.le_trans hB HF2.out.size)
        have HAA := Lib.hid (dropA cap k gr)
        have hk1 : k + 1 ≤ l1.length := by omega
        have hk2 : k ≤ cap := by omega
        have hk3 : k + 1 ≤ cap := by omega
        have hk4 : k ≤ l1.length := by omega
        have hs1 : IntKind.i64.wrap ((k : Int) + 1) = (k : Int) + 1 := IntWalk.i64_in _ (by omega)
        have hs2 : (0 : Int) ≤ (k : Int) + 1 := by omega
        have hs3 : (k : Int) + 1 ≤ (l1.length : Int) := by omega
        have hs5 : (k : Int) ≤ (l1.length : Int) := by omega
        have hs4 : ((k : Int) + 1).toNat = k + 1 := by omega
        go_wp2_with (fail)
        go_region_law (refine Kd.R_delete_step kI (w0 := W2) (g := gr) (n := l1.length) (c := cap) (k := k) B rfl _ _ 22 3 rfl Tryd.underlying22 int_size (by first | rfl | simp [Act.eval]) (by first | rfl | simp [Act.eval]) HAA.out rfl (Kd.R_drew HT2.out.row) hkl (below_drew (Below.refl _ _)) HBL.out ?_; intro W3 h1 _ h2; have hb3 := blk_grown (blk_drew HT2.out.blk) h2 HT2.out.ne; have hc3 : W3.cell? ⟨g, 0, none⟩ = some (.slice (some ⟨gr, 0, none⟩) l1.length cap) := (blk_cell hb3 0).trans rfl; have hf3 := blk_frozen hb3 0; have HB3 := Aside0.mk hb3; have HR3 := Aside0.mk h1; have HG3 := Aside0.mk h2; clear h1 h2 hb3)
        all_goals
          have HT4 := Aside0.mk (nums_store HR3.out HB3.out)
          have hcb : cnt + 1 ≤ 1048576 := by have := HC.out; omega
          clear hs1 hs2 hs3 hs4 hs5
          go_wp2_with (fail)
          have hcc := HC.out
          have hle : (l1.eraseIdx k).length = l1.length - 1 := List.length_eraseIdx_of_lt hkl
          have F2 := ((((Fr.refl (SFoot g (.slice (some ⟨gr, 0, none⟩) l1.length cap)) W2).drew).grown HG3.out (fun q hq _ => .inr hq)).set (.slice (some ⟨gr, 0, none⟩) (l1.length - 1) cap) (g := g) (o := 0) (fun _ => .inl rfl))
          exact ⟨⟨i + 1, cnt + 1, by go_num, rfl, by omega, by omega, hcb, ⟨⟨l1.eraseIdx k, .slice (some ⟨gr, 0, none⟩) (l1.length - 1) cap, HI.out.out hil hkl HKE.out, by rw [hle]; omega, by rw [hle]; omega, HT4.out, sfoot_step HF2.out HO.out F2, HO.out, HA2.out.step F2 (.inl rfl)⟩⟩⟩, by simp [intOf]; omega⟩
      · have HM := Lib.hid (decide_eq_false hmem)
        have HMM := Aside0.mk hmem
        clear hmem
        go_wp2_with (go_at_call 12; refine (has_calls _ B g _ l1 _ HT.out HI.out.rise (by omega)).mono ?_; rintro e W1 ⟨rfl, hd⟩; rw [HM.out]; have HD := Aside0.mk hd; clear hd)
        exact ⟨⟨i + 1, cnt, by go_num, rfl, by omega, hc0, hc1, ⟨⟨l1, sv1, HI.out.skip hil HMM.out, HC.out, hll, HT.out.drawn HD.out, HF.out.drawn' HD.out, HO.out, HAw.out.step (Fr.drawn HD.out) (.inl rfl)⟩⟩⟩, by simp [intOf]; omega⟩
    · obtain ⟨l1, sv1, hinv, hcnt, hll, hN, hF, hO, hAw⟩ := HW.out.ex
      have HX := Aside0.mk (show DropInv l ys l1 ys.length by rw [show ys.length = i by omega]; exact hinv)
      have HC := Lib.hid hcnt
      have HS := Aside0.mk (show STurned w B g sv l1 wr from ⟨sv1, hN, hF, hO⟩)
      clear hinv hcnt hN hF hO hAw HW
      go_wp2_with (fail)
      go_ret
      exact ⟨l1, HX.out, hll, by rw [← HC.out]; rfl, HS.out⟩
end Go.Proofs.YtpjhflimaiaokaaDoor.SetW
