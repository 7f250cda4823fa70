/-
The law of what no call made, walked.
-/
import Derived.Test.YtpjhflimaiaokaaDoorNI
import Derived.Test.YtpjhflimaiaokaaDoorRA
import Derived.Test.YtpjhflimaiaokaaDoorAL
namespace Go.Proofs.YtpjhflimaiaokaaDoor.NilLaw
open Go.RowKit Go.Proofs.YtpjhflimaiaokaaDoorW.PrintWords Go.Proofs.YtpjhflimaiaokaaDoorW.PrintLast Go.Proofs.YtpjhflimaiaokaaDoorW.PrintMore Go.Proofs.YtpjhflimaiaokaaDoor.Fr Go.Proofs.YtpjhflimaiaokaaDoor.Sets Go.Proofs.YtpjhflimaiaokaaDoor.SetW Go.Proofs.YtpjhflimaiaokaaDoor.RSet Go.Proofs.YtpjhflimaiaokaaDoor.Keys Go.Proofs.YtpjhflimaiaokaaDoor.NilW
open Go.Proofs.YtpjhflimaiaokaaDoor.Alive (alive_calls)
open Go.Proofs.YtpjhflimaiaokaaDoor.Hand (Tk Tasks Turned PushSpec pushF upF_zero lPush_calls lLen_calls)

theorem push_one {x : Int} {b : Bool} {k : Int} {ts : List Tk} (h : PushSpec [] 1 x b k ts) : b = true ∧ k = 0 ∧ ts = [⟨1, x⟩] := by
  cases h with
  | bad h => exact absurd h (by decide)
  | there i h hi => simp at hi
  | lighter i h hi => simp at hi
  | new h hno => exact ⟨rfl, rfl, by unfold pushF; exact upF_zero _⟩
theorem add_none {l : List Int} (h : AddInv [] [] l ([] : List Int).length) : l = [] := by
  cases l with
  | nil => rfl
  | cons x l => exact absurd ((h.mem x).1 (List.mem_cons_self ..)) (by simp)
set_option maxRecDepth 100000 in
set_option maxHeartbeats 4000000 in
theorem law_calls (w : World) (A : Option Addr) (c : Nat) (xs : List Int) (n x : Int) (hr : kI.C w A xs.length xs)
    (hlt : ∀ ad, A = some ad → 0 < xs.length → ad.block < w.heap.size) (ht : Tab w) :
    Calls Tryd.prog 5 #[.slice A xs.length c, .int .i64 n, .int .i64 x] w fun e w' => e = .returned (.bool true) ∧ Below w.heap.size w w' := by
  have HR := Aside0.mk hr
  have HLT := Aside0.mk hlt
  have HT := Aside0.mk ht
  clear hr hlt ht
  go_enter Tryd.func5, Tryd.ntmps5
  go_wp2_with (fail)
  refine (nAdd _ _).mono ?_
  rintro e _ ⟨rfl, rfl⟩
  go_wp2_with (fail)
  refine (nPush _ _ _).mono ?_
  rintro e _ ⟨rfl, rfl⟩
  go_wp2_with (fail)
  refine (nPop _).mono ?_
  rintro e _ ⟨rfl, rfl⟩
  go_wp2_with (fail)
  refine (nXAt _ _).mono ?_
  rintro e _ ⟨rfl, rfl⟩
  go_wp2_with (fail)
  refine (nXFind _ _).mono ?_
  rintro e _ ⟨rfl, rfl⟩
  go_wp2_with (fail)
  refine (nXKey _ _).mono ?_
  rintro e W1 ⟨rfl, hF1⟩
  have HF1 := Aside0.mk hF1
  clear hF1
  go_wp2_with (fail)
  refine (newSet_calls W1 W1.heap.size [] none 0 (Nat.le_refl _) (by exact Kd.C_nil ..) (fun ad e => nomatch e)).mono ?_
  rintro e W2 (⟨_, l, sv, hinv, rfl, hN, hS, hF⟩ | ⟨⟨y, hy, hb⟩, _⟩)
  case inr => exact absurd hy (by simp)
  obtain rfl := add_none hinv
  have HN := Aside0.mk hN
  have HF2 := Aside0.mk (HF1.out.trans hF (fun _ _ hf => hf))
  clear hinv hS hF hN HF1
  go_wp2_with (fail)
  refine (nDrop _ xs _ _ (HF2.out.C (S := fun _ => False) 0 HR.out (fun _ _ _ => id))).mono ?_
  rintro e _ ⟨rfl, rfl⟩
  go_wp2_with (fail)
  refine (nHas _ _).mono ?_
  rintro e _ ⟨rfl, rfl⟩
  go_wp2_with (fail)
  refine (nLen _).mono ?_
  rintro e _ ⟨rfl, rfl⟩
  go_wp2_with (fail)
  refine (nAll _).mono ?_
  rintro e _ ⟨rfl, rfl⟩
  go_wp2_with (fail)
  refine (nCopy _).mono ?_
  rintro e _ ⟨rfl, rfl⟩
  go_wp2_with (fail)
  refine (nLLen _).mono ?_
  rintro e _ ⟨rfl, rfl⟩
  go_wp2_with (fail)
  refine (nXLen _).mono ?_
  rintro e _ ⟨rfl, rfl⟩
  go_wp2_with (fail)
  refine (nKey _).mono ?_
  rintro e W3 ⟨rfl, hF⟩
  have HN3 := Aside0.mk (show Nums W3 W1.heap.size W1.heap.size sv [] from ⟨hF.blk HN.out.blk id, hF.R HN.out.row (fun _ _ => id)⟩)
  have HF3 := Aside0.mk (HF2.out.trans hF (fun _ _ hf => hf))
  clear HF2 HN hF
  go_wp2_with (fail)
  refine (key_calls W3 _ _ _ [] HN3.out (by intro i j h0 h1 h2; simp at h2; omega) (by simp) (HT.out.fr HF3.out (fun _ _ => id))).mono ?_
  rintro e W4 ⟨rfl, hF⟩
  have HN4 := Aside0.mk (show Nums W4 W1.heap.size W1.heap.size sv [] from ⟨hF.blk HN3.out.blk id, hF.R HN3.out.row (fun _ _ => id)⟩)
  have HF4 := Aside0.mk (HF3.out.trans hF (fun _ _ hf => hf))
  clear HF3 HN3 hF
  rw [show keyB [] = [] from rfl]
  go_wp2_with (fail)
  refine (nJoin _ _).mono ?_
  rintro e _ ⟨rfl, rfl⟩
  go_wp2_with (fail)
  refine (nMeets _ _ _ _ HN4.out).mono ?_
  rintro e _ ⟨rfl, rfl⟩
  clear HN4
  go_wp2_with (fail)
  have hsz4 := HF4.out.size
  refine (add_calls _ W4.heap.size W4.heap.size (.slice none 0 0) [] xs A c ⟨blk_new _ _, Kd.R_nil _ _ _ _ _⟩ (by simp) (by intro i j h0 h1 h2; simp at h2; omega) (by simp)
    ⟨Kd.C_alloc (HF4.out.C (S := fun _ => False) 0 HR.out (fun _ _ _ => id)) _, fun ad e hp => by have := HLT.out ad e hp; exact ⟨by omega, by simp [Value.ownBlock], by simp; omega⟩⟩).mono ?_
  rintro e W5 (⟨hn, l', hinv, rfl, sv5, hN, hF, hO⟩ | ⟨hbad, rfl, hd⟩)
  · have HF5 := Aside0.mk (show Fr (fun q => w.heap.size ≤ q) w W5 from ((HF4.out.mono (T := fun q => w.heap.size ≤ q) (fun _ hf => hf.elim)).alloc _).trans hF (fun i hi hk => by
      rcases hk with rfl | hk
      · exact hsz4
      · simp [Value.ownBlock] at hk))
    have HN := Aside0.mk hN
    have HA := Aside0.mk hn
    have hl := hinv.len
    clear hinv hF hN hO hn HF4
    simp only [List.length_nil, Int.natCast_zero, Int.sub_zero]
    go_wp2_with (fail)
    refine (numbers_calls _ xs A c (HF5.out.C (S := fun q => w.heap.size ≤ q) 0 HR.out (fun ad e hp => by have := HLT.out ad e hp; omega))).mono ?_
    rintro e _ ⟨⟨b, rfl, hb⟩, rfl⟩
    obtain rfl : b = true := hb.2 HA.out
    clear hb
    go_wp2_with (fail)
    refine (slen_calls _ _ _ _ _ HN.out).mono ?_
    rintro e _ ⟨rfl, rfl⟩
    go_wp2_with (fail)
    refine (iAt _ _ n (blk_new W5 _)).mono ?_
    rintro e WI1 ⟨rfl, hF⟩
    have HG1 := Aside0.mk ((HF5.out.alloc (.cells #[.map none, .slice none 0 0] 71)).trans hF (fun i hi e => by have := HF5.out.size; omega))
    clear hF
    go_wp2_with (fail)
    refine (lPush_calls (WI1.alloc (.cells #[.slice none 0 0] 76)) WI1.heap.size WI1.heap.size (.slice none 0 0) [] ⟨blk_new _ _, Kd.R_nil _ _ _ _ _⟩ (by simp) (by simp) 1 x).mono ?_
    rintro e WJ1 ⟨b, kk, ts, rfl, hp, hT⟩
    obtain ⟨rfl, rfl, rfl⟩ := push_one hp
    obtain ⟨sv4, hT4, hF, _⟩ := hT
    have HH1 := Aside0.mk ((HG1.out.alloc (.cells #[.slice none 0 0] 76)).trans hF (fun i hi hk => by
      have := HG1.out.size
      rcases hk with rfl | hk
      · omega
      · simp [Value.ownBlock] at hk))
    have HT4 := Aside0.mk hT4
    clear hp hT4 hF
    go_wp2_with (fail)
    refine (lLen_calls _ _ _ _ _ HT4.out).mono ?_
    rintro e _ ⟨rfl, rfl⟩
    go_wp2_with (fail)
    refine (alive_calls _).mono ?_
    rintro e WK1 ⟨rfl, hF⟩
    have HZ1 := Aside0.mk (HH1.out.trans hF (fun _ _ hf => hf.elim))
    clear hF
    go_wp2_with (fail)
    go_ret
    exact ⟨rfl, HZ1.out.below (Nat.le_refl _) (fun i hi hk => by omega)⟩
  · have HF5 := Aside0.mk (show Fr (fun q => w.heap.size ≤ q) w W5 from ((HF4.out.mono (T := fun q => w.heap.size ≤ q) (fun _ hf => hf.elim)).alloc (.cells #[.slice none 0 0] 67)).trans (Fr.drawn (S := fun _ => False) hd) (fun _ _ hf => hf.elim))
    have HN := Aside0.mk (show Nums W5 W4.heap.size W4.heap.size (.slice none 0 0) [] from Nums.drawn ⟨blk_new _ _, Kd.R_nil _ _ _ _ _⟩ hd)
    have HA := Aside0.mk hbad
    clear hbad hd HF4
    go_wp2_with (fail)
    refine (numbers_calls _ xs A c (HF5.out.C (S := fun q => w.heap.size ≤ q) 0 HR.out (fun ad e hp => by have := HLT.out ad e hp; omega))).mono ?_
    rintro e _ ⟨⟨b, rfl, hb⟩, rfl⟩
    obtain rfl : b = false := by
      cases b with
      | false => rfl
      | true =>
        obtain ⟨y, hy, hz⟩ := HA.out
        rw [hb.1 rfl y hy] at hz
        cases hz
    clear hb
    go_wp2_with (fail)
    refine (slen_calls _ _ _ _ _ HN.out).mono ?_
    rintro e _ ⟨rfl, rfl⟩
    go_wp2_with (fail)
    refine (iAt _ _ n (blk_new W5 _)).mono ?_
    rintro e WI2 ⟨rfl, hF⟩
    have HG2 := Aside0.mk ((HF5.out.alloc (.cells #[.map none, .slice none 0 0] 71)).trans hF (fun i hi e => by have := HF5.out.size; omega))
    clear hF
    go_wp2_with (fail)
    refine (lPush_calls (WI2.alloc (.cells #[.slice none 0 0] 76)) WI2.heap.size WI2.heap.size (.slice none 0 0) [] ⟨blk_new _ _, Kd.R_nil _ _ _ _ _⟩ (by simp) (by simp) 1 x).mono ?_
    rintro e WJ2 ⟨b, kk, ts, rfl, hp, hT⟩
    obtain ⟨rfl, rfl, rfl⟩ := push_one hp
    obtain ⟨sv4, hT4, hF, _⟩ := hT
    have HH2 := Aside0.mk ((HG2.out.alloc (.cells #[.slice none 0 0] 76)).trans hF (fun i hi hk => by
      have := HG2.out.size
      rcases hk with rfl | hk
      · omega
      · simp [Value.ownBlock] at hk))
    have HT4 := Aside0.mk hT4
    clear hp hT4 hF
    go_wp2_with (fail)
    refine (lLen_calls _ _ _ _ _ HT4.out).mono ?_
    rintro e _ ⟨rfl, rfl⟩
    go_wp2_with (fail)
    refine (alive_calls _).mono ?_
    rintro e WK2 ⟨rfl, hF⟩
    have HZ2 := Aside0.mk (HH2.out.trans hF (fun _ _ hf => hf.elim))
    clear hF
    go_wp2_with (fail)
    go_ret
    exact ⟨rfl, HZ2.out.below (Nat.le_refl _) (fun i hi hk => by omega)⟩
end Go.Proofs.YtpjhflimaiaokaaDoor.NilLaw
