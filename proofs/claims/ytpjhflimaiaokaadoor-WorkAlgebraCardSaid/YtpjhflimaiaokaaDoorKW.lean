/-
The law of the algebra of sets, walked.
-/
import Derived.Test.YtpjhflimaiaokaaDoorKB
import Derived.Test.YtpjhflimaiaokaaDoorRA
import Derived.Test.YtpjhflimaiaokaaDoorAL
namespace Go.Proofs.YtpjhflimaiaokaaDoor.Algebra
open Go.RowKit Go.Proofs.YtpjhflimaiaokaaDoorW.PrintWords Go.Proofs.YtpjhflimaiaokaaDoorW.PrintLast Go.Proofs.YtpjhflimaiaokaaDoorW.PrintMore Go.Proofs.YtpjhflimaiaokaaDoor.Fr Go.Proofs.YtpjhflimaiaokaaDoor.Sets Go.Proofs.YtpjhflimaiaokaaDoor.SetW Go.Proofs.YtpjhflimaiaokaaDoor.RSet Go.Proofs.YtpjhflimaiaokaaDoor.Keys
open Go.Proofs.YtpjhflimaiaokaaDoor.Alive (alive_calls)

theorem int_fr {w w1 : World} {B : Nat} {v : Value} {xs : List Int} {S : Nat → Prop} (h : kI.R 3 w B (fun _ => True) v xs) (hF : Fr S w w1) (hS : ∀ k, v.ownBlock = some k → ¬ S k) : kI.R 3 w1 B (fun _ => True) v xs :=
  Kd.R_mono (hF.R (show kI.R 3 w B (fun k => v.ownBlock = some k) v xs from Kd.R_of_own (Kd.own_of_R h) (fun _ hk => hk)) hS) (fun _ _ => trivial)
/-- A set of block g, all below top. -/
structure St (W : World) (g : Nat) (l : List Int) (top : Nat) : Prop where
  ex : ∃ sv B, Nums W B g sv l ∧ ∀ k, sv.ownBlock = some k → k < top
  rise : Rising l
  num : ∀ x, x ∈ l → isNum x = true
  hg : g < top
theorem St.fr {W W1 : World} {g : Nat} {l : List Int} {top : Nat} {S : Nat → Prop} (h : St W g l top) (hF : Fr S W W1) (hS : ∀ k, S k → top ≤ k) : St W1 g l top := by
  obtain ⟨sv, B, hN, ho⟩ := h.ex
  have := h.hg
  exact ⟨⟨sv, B, ⟨hF.blk hN.blk (fun hs => by have := hS _ hs; omega), int_fr hN.row hF (fun k hk hs => by have := hS _ hs; have := ho k hk; omega)⟩, ho⟩, h.rise, h.num, h.hg⟩
theorem St.up {W : World} {g : Nat} {l : List Int} {top top' : Nat} (h : St W g l top) (ht : top ≤ top') : St W g l top' := by
  obtain ⟨sv, B, hN, ho⟩ := h.ex
  exact ⟨⟨sv, B, hN, fun k hk => by have := ho k hk; omega⟩, h.rise, h.num, by have := h.hg; omega⟩
theorem St.of {W : World} {B g : Nat} {sv : Value} {l : List Int} (hN : Nums W B g sv l) (hr : Rising l) (hn : ∀ x, x ∈ l → isNum x = true) : St W g l W.heap.size :=
  ⟨⟨sv, B, hN, fun k hk => ((Kd.R_bound hN.row).1 k hk).2.2.1⟩, hr, hn, blk_lt hN.blk⟩
theorem St.len {W : World} {g : Nat} {l : List Int} {top : Nat} (h : St W g l top) : l.length ≤ 1048576 := len_le h.rise h.num

/-- The three sets. -/
structure Tri (w W : World) (gx : Nat) (lx : List Int) (gy : Nat) (ly : List Int) (gz : Nat) (lz : List Int) : Prop where
  x : ∃ sv B, Nums W B gx sv lx
  y : ∃ sv B, Nums W B gy sv ly
  z : ∃ sv B, Nums W B gz sv lz
  fr : Fr (fun _ => False) w W
  tab : Tab W
theorem Nums.fr {w w1 : World} {B g : Nat} {sv : Value} {l : List Int} (h : Nums w B g sv l) (hF : Fr (fun _ => False) w w1) : Nums w1 B g sv l := ⟨hF.blk h.blk id, hF.R h.row (fun _ _ => id)⟩
theorem Tri.go {w W W1 : World} {gx gy gz : Nat} {lx ly lz : List Int} (h : Tri w W gx lx gy ly gz lz) (hF : Fr (fun _ => False) W W1) : Tri w W1 gx lx gy ly gz lz := by
  obtain ⟨sx, Bx, hx⟩ := h.x
  obtain ⟨sy, By, hy⟩ := h.y
  obtain ⟨sz, Bz, hz⟩ := h.z
  exact ⟨⟨sx, Bx, Nums.fr hx hF⟩, ⟨sy, By, Nums.fr hy hF⟩, ⟨sz, Bz, Nums.fr hz hF⟩, h.fr.trans hF (fun _ _ hf => hf), h.tab.fr hF (fun _ _ => id)⟩
theorem nodup_sub : ∀ (l m : List Int), l.Nodup → (∀ x, x ∈ l → x ∈ m) → l.length ≤ m.length
  | [], _, _, _ => Nat.zero_le _
  | x :: l, m, h, hs => by
    rw [List.nodup_cons] at h
    have hx := hs x (List.mem_cons_self ..)
    have := nodup_sub l (m.erase x) h.2 (fun y hy => (List.mem_erase_of_ne (fun e => h.1 (by rw [← e]; exact hy))).2 (hs y (List.mem_cons_of_mem _ hy)))
    rw [List.length_erase_of_mem hx] at this
    have := List.length_pos_of_mem hx
    simp only [List.length_cons]
    omega
theorem rising_nodup {l : List Int} (h : Rising l) : l.Nodup := by
  rw [List.nodup_iff_pairwise_ne, List.pairwise_iff_getElem]
  intro i j hi hj hij
  have := h i j (by omega) (by omega) (by omega)
  simp only [rd, List.getD_eq_getElem?_getD, Int.toNat_natCast, List.getElem?_eq_getElem hi, List.getElem?_eq_getElem hj, Option.getD_some] at this
  omega
theorem rising_pairwise {l : List Int} (h : Rising l) : l.Pairwise (· < ·) := by
  rw [List.pairwise_iff_getElem]
  intro i j hi hj hij
  have := h i j (by omega) (by omega) (by omega)
  simpa only [rd, List.getD_eq_getElem?_getD, Int.toNat_natCast, List.getElem?_eq_getElem hi, List.getElem?_eq_getElem hj, Option.getD_some] using this
theorem rising_ext {a b : List Int} (ha : Rising a) (hb : Rising b) (h : ∀ x, x ∈ a ↔ x ∈ b) : a = b := sorted_ext (rising_pairwise ha) (rising_pairwise hb) h
theorem same_iff {a b : List Int} (ha : Rising a) (hb : Rising b) : (a.length = b.length ∧ ∀ x, x ∈ a → x ∈ b) ↔ a = b := by
  constructor
  · rintro ⟨hl, hs⟩
    refine rising_ext ha hb (fun x => ⟨hs x, fun hx => Classical.byContradiction fun hn => ?_⟩)
    have := nodup_sub (x :: a) b (List.nodup_cons.2 ⟨hn, rising_nodup ha⟩) (fun y hy => by
      rcases List.mem_cons.1 hy with rfl | hy
      · exact hx
      · exact hs y hy)
    simp only [List.length_cons] at this
    omega
  · rintro rfl
    exact ⟨rfl, fun _ h => h⟩
theorem within_iff {a b : List Int} (ha : Rising a) (hb : Rising b) : ((∀ x, x ∈ a → x ∈ b) ∧ ∀ x, x ∈ b → x ∈ a) ↔ a = b :=
  ⟨fun h => rising_ext ha hb (fun x => ⟨h.1 x, h.2 x⟩), fun h => by subst h; exact ⟨fun _ h => h, fun _ h => h⟩⟩
theorem key_ne {a b : List Int} (ha : ∀ x, x ∈ a → isNum x = true) (hb : ∀ x, x ∈ b → isNum x = true) (e : (⟨(keyB a).toArray⟩ : ByteArray) = ⟨(keyB b).toArray⟩) : a = b := by
  injection e with e
  have e2 : keyB a = keyB b := by simpa using e
  exact keyB_inj (fun x hx => by have := ha x hx; simp only [isNum, decide_eq_true_eq] at this; omega) (fun x hx => by have := hb x hx; simp only [isNum, decide_eq_true_eq] at this; omega) e2
theorem meets_comm (a b : List Int) : (∃ x, x ∈ a ∧ x ∈ b) ↔ (∃ x, x ∈ b ∧ x ∈ a) := ⟨fun ⟨x, h1, h2⟩ => ⟨x, h2, h1⟩, fun ⟨x, h1, h2⟩ => ⟨x, h2, h1⟩⟩
theorem numbers_false {ys : List Int} {b : Bool} (hno : ∃ y, y ∈ ys ∧ isNum y = false) (hb : b = true ↔ ∀ y, y ∈ ys → isNum y = true) : b = false := by
  cases b with
  | false => rfl
  | true =>
    obtain ⟨y, hy, hz⟩ := hno
    rw [hb.1 rfl y hy] at hz
    cases hz
set_option maxRecDepth 100000 in
set_option maxHeartbeats 8000000 in
theorem law_calls (w : World) (A : Option Addr) (c : Nat) (xs : List Int) (A' : Option Addr) (c' : Nat) (ys : List Int) (n : Int) (hr : kI.C w A xs.length xs) (hr' : kI.C w A' ys.length ys)
    (hlt : ∀ ad, A = some ad → 0 < xs.length → ad.block < w.heap.size) (hlt' : ∀ ad, A' = some ad → 0 < ys.length → ad.block < w.heap.size) (ht : Tab w) :
    Calls Tryd.prog 3 #[.slice A xs.length c, .slice A' ys.length c', .int .i64 n] w fun e w' => e = .returned (.bool true) ∧ Below w.heap.size w w' := by
  have HR := Aside0.mk hr
  have HR' := Aside0.mk hr'
  have HLT' := Aside0.mk hlt'
  have HT := Aside0.mk ht
  clear hr' hlt' ht
  go_enter Tryd.func3, Tryd.ntmps3
  go_wp2_with (fail)
  refine (newSet_calls w w.heap.size xs A c (Nat.le_refl _) hr hlt).mono ?_
  clear hr hlt
  rintro e W1 hP
  rcases hP with ⟨hall, lx, svx, hA, rfl, hN, _, hF1⟩ | ⟨hno, rfl, hF1⟩
  · have HX := Aside0.mk (St.of hN hA.rise hA.num)
    have HF1 := Aside0.mk hF1
    have HALL := Aside0.mk hall
    clear hN hA hF1 hall
    go_wp2_with (fail)
    refine (newSet_calls W1 W1.heap.size ys A' c' (Nat.le_refl _) (HF1.out.C (S := fun _ => False) 0 HR'.out (fun _ _ _ => id)) (fun ad e hp => Nat.lt_of_lt_of_le (HLT'.out ad e hp) HF1.out.size)).mono ?_
    rintro e W2 hP
    rcases hP with ⟨_, ly, svy, hA2, rfl, hN2, _, hF2⟩ | ⟨hno, rfl, hF2⟩
    · have HY := Aside0.mk (St.of hN2 hA2.rise hA2.num)
      have HX2 := Aside0.mk ((HX.out.fr hF2 (fun _ hf => hf.elim)).up hF2.size)
      have HF2 := Aside0.mk (HF1.out.trans hF2 (fun _ _ hf => hf))
      clear hN2 hA2 hF2 HX
      go_wp2_with (fail)
      obtain ⟨sv, B, hN, _⟩ := HX2.out.ex
      refine (copy_calls W2 B w.heap.size sv lx hN (by have := HX2.out.len; omega)).mono ?_
      clear hN
      rintro e W3 ⟨gz, svz, rfl, hgz, hNz, hF3⟩
      have HX3 := Aside0.mk (HX2.out.fr hF3 (fun _ hf => hf.elim))
      have HY3 := Aside0.mk (HY.out.fr hF3 (fun _ hf => hf.elim))
      have HNZ := Aside0.mk hNz
      have HF3 := Aside0.mk (HF2.out.trans hF3 (fun _ _ hf => hf))
      have hsz3 := hF3.size
      clear hNz hF3 HX2 HY HF1 HF2 HALL
      go_wp2_with (fail)
      obtain ⟨sv2, B2, hN2, _⟩ := HY3.out.ex
      refine (join_calls W3 W2.heap.size gz svz lx B2 W1.heap.size sv2 ly HNZ.out hN2 hsz3 HX3.out.rise HX3.out.num HY3.out.rise HY3.out.num).mono ?_
      clear hN2
      rintro e W4 ⟨lz, hI, rfl, svz2, hNz2, hF4, _⟩
      have hab : ∀ k, SFoot gz svz k → W2.heap.size ≤ k := fun k hk => hk.elim (fun e => by omega) (fun e => Kd.R_base HNZ.out.row k e)
      have HX4 := Aside0.mk ((HX3.out.fr hF4 hab))
      have HY4 := Aside0.mk ((HY3.out.fr hF4 hab))
      have HZ4 := Aside0.mk (St.of hNz2 hI.rise hI.num)
      have HI := Aside0.mk (show ∀ x, x ∈ lz ↔ x ∈ lx ∨ x ∈ ly from fun x => by rw [hI.mem, List.take_length])
      have HF4 := Aside0.mk (HF3.out.trans hF4 (fun k hk hs => by have := hab k hs; have := HF3.out.size; have := hgz; have := HX3.out.hg; omega))
      clear hI hNz2 hF4 hab HNZ HX3 HY3 HF3
      go_wp2_with (fail)
      obtain ⟨sv3, B3, hN3, _⟩ := HX4.out.ex
      refine (all_calls W4 B3 w.heap.size sv3 lx hN3 (by have := HX4.out.len; omega)).mono ?_
      clear hN3
      rintro e W5 ⟨v5, rfl, hR5, hF5⟩
      obtain ⟨A5, c5, rfl⟩ := Kd.R_slice hR5
      have HC5 := Aside0.mk (Kd.R_reads' hR5).2.2
      have HX5 := Aside0.mk (HX4.out.fr hF5 (fun _ hf => hf.elim))
      have HY5 := Aside0.mk (HY4.out.fr hF5 (fun _ hf => hf.elim))
      have HZ5 := Aside0.mk (HZ4.out.fr hF5 (fun _ hf => hf.elim))
      have HF5 := Aside0.mk (HF4.out.trans hF5 (fun _ _ hf => hf))
      have hm := Kd.C_max HC5.out
      clear hR5 hF5 HX4 HY4 HZ4 HF4 HLT' HR HR'
      go_wp2_with (fail)
      go_loopw [59, 13] (fun a b W => ∃ (k : Nat) (m : Bool), a = .int .i64 k ∧ b = .bool m ∧ k ≤ lx.length ∧ Aside0 (m = true ↔ ∃ j : Nat, j < k ∧ rd lx j ∈ ly) ∧ Drawn0 W5 W) (fun a _ _ => lx.length - (intOf a).toNat)
      case atStart => exact ⟨0, false, rfl, rfl, Nat.zero_le _, ⟨⟨fun h => (by cases h), fun ⟨j, hj, _⟩ => absurd hj (Nat.not_lt_zero j)⟩⟩, Drawn0.refl _⟩
      case round =>
        obtain ⟨k, m, rfl, rfl, hk, HM, hd⟩ := hrel
        by_cases hlt : k < lx.length
        · obtain ⟨ad, rfl, hx⟩ := Kd.at_int HC5.out (k : Int) (by omega) (by omega)
          simp only [Int.toNat_natCast] at hx
          replace hx : wr.cell? (ad.add k) = some (.int .i64 (rd lx k)) := (Fr.drawn (S := fun _ => False) hd).cell hx id
          have HD := Aside0.mk hd
          clear hd
          cases m with
          | true =>
            go_wp2_with (fail)
            exact ⟨⟨k + 1, true, by go_num, rfl, by omega, ⟨⟨fun _ => by obtain ⟨j, hj, h⟩ := HM.out.1 rfl; exact ⟨j, by omega, h⟩, fun _ => rfl⟩⟩, HD.out⟩, by simp [intOf]; omega⟩
          | false =>
            go_wp2_with (fail)
            obtain ⟨sv4, B4, hN4, _⟩ := (HY5.out.fr (S := fun _ => False) (Fr.drawn HD.out) (fun _ hf => hf.elim)).ex
            refine (has_calls wr B4 W1.heap.size sv4 ly _ hN4 HY5.out.rise (by have := HY5.out.len; omega)).mono ?_
            clear hN4
            rintro e W6 ⟨rfl, hd⟩
            have HD6 := Aside0.mk (show Drawn0 W5 W6 by obtain ⟨q1, e1⟩ := HD.out; obtain ⟨q2, rfl⟩ := hd; exact Drawn0.step ⟨q1, e1⟩ _)
            clear hd
            go_wp2_with (fail)
            exact ⟨⟨k + 1, decide (rd lx k ∈ ly), by go_num, rfl, by omega, ⟨⟨fun h => ⟨k, by omega, of_decide_eq_true h⟩, fun ⟨j, hj, h⟩ => decide_eq_true (by
              by_cases e : j = k
              · rw [← e]; exact h
              · have := HM.out.2 ⟨j, by omega, h⟩
                cases this)⟩⟩, HD6.out⟩, by simp [intOf]; omega⟩
        · have HMM := Lib.hid (show m = decide (∃ x, x ∈ lx ∧ x ∈ ly) by
            cases m with
            | true =>
              obtain ⟨j, hj, h⟩ := HM.out.1 rfl
              exact (decide_eq_true ⟨_, mem_iff_rd.2 ⟨j, by omega, rfl⟩, h⟩).symm
            | false => exact (decide_eq_false (fun ⟨x, hx, hy⟩ => by
                obtain ⟨j, hj, rfl⟩ := mem_iff_rd.1 hx
                have := HM.out.2 ⟨j, by omega, hy⟩
                cases this)).symm)
          have HXr := Aside0.mk (HX5.out.fr (S := fun _ => False) (Fr.drawn hd) (fun _ hf => hf.elim))
          have HYr := Aside0.mk (HY5.out.fr (S := fun _ => False) (Fr.drawn hd) (fun _ hf => hf.elim))
          have HZr := Aside0.mk (HZ5.out.fr (S := fun _ => False) (Fr.drawn hd) (fun _ hf => hf.elim))
          have HFr := Aside0.mk (HF5.out.drawn' hd)
          have HRX := Aside0.mk HX5.out.rise
          have HRY := Aside0.mk HY5.out.rise
          have HRZ := Aside0.mk HZ5.out.rise
          have HNX := Aside0.mk HX5.out.num
          have HNZ := Aside0.mk HZ5.out.num
          have hlx := HX5.out.len
          have hly := HY5.out.len
          have hlz := HZ5.out.len
          have HQ0 := Aside0.mk (show Tri w wr w.heap.size lx W1.heap.size ly gz lz from ⟨by obtain ⟨a, b, h, _⟩ := HXr.out.ex; exact ⟨a, b, h⟩, by obtain ⟨a, b, h, _⟩ := HYr.out.ex; exact ⟨a, b, h⟩, by obtain ⟨a, b, h, _⟩ := HZr.out.ex; exact ⟨a, b, h⟩, HFr.out, HT.out.fr HFr.out (fun _ _ => id)⟩)
          clear hd HM HX5 HY5 HZ5 HF5 HC5 HXr HYr HZr HFr
          go_wp2_with (fail)
          obtain ⟨s1, B1, hN⟩ := HQ0.out.z
          refine (has_calls wr B1 gz s1 lz n hN HRZ.out (by omega)).mono ?_
          clear hN
          rintro e V1 ⟨rfl, hd⟩
          have HQ1 := Aside0.mk (HQ0.out.go (Fr.drawn hd))
          clear hd HQ0
          go_wp2_with (fail)
          obtain ⟨s2, B2, hN⟩ := HQ1.out.x
          refine (has_calls V1 B2 w.heap.size s2 lx n hN HRX.out (by omega)).mono ?_
          clear hN
          rintro e V2 ⟨rfl, hd⟩
          have HQ2 := Aside0.mk (HQ1.out.go (Fr.drawn hd))
          clear hd HQ1
          by_cases hin : n ∈ lx
          · rw [decide_eq_true hin, decide_eq_true ((HI.out n).2 (.inl hin))]
            clear hin
            go_wp2_with (fail)
            obtain ⟨s3z, B3z, hNz⟩ := HQ2.out.z
            refine (slen_calls _ _ _ _ _ hNz).mono ?_
            clear hNz
            rintro e V3 ⟨rfl, rfl⟩
            go_wp2_with (fail)
            obtain ⟨s4x, B4x, hNx⟩ := HQ2.out.x
            refine (slen_calls _ _ _ _ _ hNx).mono ?_
            clear hNx
            rintro e V4 ⟨rfl, rfl⟩
            go_wp2_with (fail)
            obtain ⟨s5x, B5x, hNx⟩ := HQ2.out.x
            obtain ⟨s5z, B5z, hNz⟩ := HQ2.out.z
            refine (within_calls V2 B5x w.heap.size s5x lx B5z gz s5z lz hNx hNz HRZ.out (by omega)).mono ?_
            clear hNx hNz
            rintro e V5 ⟨rfl, hd⟩
            have HQ5 := Aside0.mk (HQ2.out.go (Fr.drawn hd))
            clear hd HQ2
            rw [decide_eq_true (fun x hx => (HI.out x).2 (.inl hx))]
            go_wp2_with (fail)
            obtain ⟨s6y, B6y, hNy⟩ := HQ5.out.y
            obtain ⟨s6z, B6z, hNz⟩ := HQ5.out.z
            refine (within_calls V5 B6y W1.heap.size s6y ly B6z gz s6z lz hNy hNz HRZ.out (by omega)).mono ?_
            clear hNy hNz
            rintro e V6 ⟨rfl, hd⟩
            have HQ6 := Aside0.mk (HQ5.out.go (Fr.drawn hd))
            clear hd HQ5
            rw [decide_eq_true (fun x hx => (HI.out x).2 (.inr hx))]
            go_wp2_with (fail)
            obtain ⟨s7x, B7x, hNx⟩ := HQ6.out.x
            obtain ⟨s7y, B7y, hNy⟩ := HQ6.out.y
            refine (meets_calls V6 B7x w.heap.size s7x lx B7y W1.heap.size s7y ly hNx hNy HRY.out (by omega)).mono ?_
            clear hNx hNy
            rintro e V7 ⟨rfl, hd⟩
            have HQ7 := Aside0.mk (HQ6.out.go (Fr.drawn hd))
            clear hd HQ6
            rw [← HMM.out]
            go_wp2_with (fail)
            obtain ⟨s8x, B8x, hNx⟩ := HQ7.out.x
            obtain ⟨s8y, B8y, hNy⟩ := HQ7.out.y
            refine (meets_calls V7 B8x w.heap.size s8x lx B8y W1.heap.size s8y ly hNx hNy HRY.out (by omega)).mono ?_
            clear hNx hNy
            rintro e V8 ⟨rfl, hd⟩
            have HQ8 := Aside0.mk (HQ7.out.go (Fr.drawn hd))
            clear hd HQ7
            rw [← HMM.out]
            go_wp2_with (fail)
            obtain ⟨s9y, B9y, hNy⟩ := HQ8.out.y
            obtain ⟨s9x, B9x, hNx⟩ := HQ8.out.x
            refine (meets_calls V8 B9y W1.heap.size s9y ly B9x w.heap.size s9x lx hNy hNx HRX.out (by omega)).mono ?_
            clear hNy hNx
            rintro e V9 ⟨rfl, hd⟩
            have HQ9 := Aside0.mk (HQ8.out.go (Fr.drawn hd))
            clear hd HQ8
            rw [decide_eq_decide.2 (meets_comm ly lx), ← HMM.out]
            go_wp2_with (fail)
            obtain ⟨s10x, B10x, hNx⟩ := HQ9.out.x
            obtain ⟨s10y, B10y, hNy⟩ := HQ9.out.y
            refine (samew_calls V9 B10x w.heap.size s10x lx B10y W1.heap.size s10y ly hNx hNy HRY.out (by omega)).mono ?_
            clear hNx hNy
            rintro e V10 ⟨rfl, hd⟩
            have HQ10 := Aside0.mk (HQ9.out.go (Fr.drawn hd))
            clear hd HQ9
            rw [decide_eq_decide.2 (same_iff HRX.out HRY.out)]
            go_wp2_with (fail)
            by_cases hxy : lx = ly
            · rw [decide_eq_true hxy]
              obtain ⟨s11x, B11x, hNx⟩ := HQ10.out.x
              obtain ⟨s11y, B11y, hNy⟩ := HQ10.out.y
              refine (within_calls V10 B11x w.heap.size s11x lx B11y W1.heap.size s11y ly hNx hNy HRY.out (by omega)).mono ?_
              clear hNx hNy
              rintro e V11 ⟨rfl, hd⟩
              have HQ11 := Aside0.mk (HQ10.out.go (Fr.drawn hd))
              clear hd HQ10
              rw [decide_eq_true ((within_iff HRX.out HRY.out).2 hxy).1]
              go_wp2_with (fail)
              obtain ⟨s12y, B12y, hNy⟩ := HQ11.out.y
              obtain ⟨s12x, B12x, hNx⟩ := HQ11.out.x
              refine (within_calls V11 B12y W1.heap.size s12y ly B12x w.heap.size s12x lx hNy hNx HRX.out (by omega)).mono ?_
              clear hNy hNx
              rintro e V12 ⟨rfl, hd⟩
              have HQ12 := Aside0.mk (HQ11.out.go (Fr.drawn hd))
              clear hd HQ11
              rw [decide_eq_true ((within_iff HRX.out HRY.out).2 hxy).2]
              go_wp2_with (fail)
              obtain ⟨s13x, B13x, hNx⟩ := HQ12.out.x
              refine (key_calls V12 B13x w.heap.size s13x lx hNx HRX.out HNX.out HQ12.out.tab).mono ?_
              clear hNx
              rintro e V13 ⟨rfl, hd⟩
              have HQ13 := Aside0.mk (HQ12.out.go hd)
              clear hd HQ12
              go_wp2_with (fail)
              by_cases hxz : lx = lz
              · skip
                obtain ⟨s14z, B14z, hNz⟩ := HQ13.out.z
                refine (key_calls V13 B14z gz s14z lz hNz HRZ.out HNZ.out HQ13.out.tab).mono ?_
                clear hNz
                rintro e V14 ⟨rfl, hd⟩
                have HQ14 := Aside0.mk (HQ13.out.go hd)
                clear hd HQ13
                rw [← hxz]
                go_wp2_with (fail)
                obtain ⟨s15x, B15x, hNx⟩ := HQ14.out.x
                obtain ⟨s15z, B15z, hNz⟩ := HQ14.out.z
                refine (samew_calls V14 B15x w.heap.size s15x lx B15z gz s15z lz hNx hNz HRZ.out (by omega)).mono ?_
                clear hNx hNz
                rintro e V15 ⟨rfl, hd⟩
                have HQ15 := Aside0.mk (HQ14.out.go (Fr.drawn hd))
                clear hd HQ14
                rw [decide_eq_decide.2 (same_iff HRX.out HRZ.out), decide_eq_true hxz]
                go_wp2_with (fail)
                refine (alive_calls _).mono ?_
                rintro e VL ⟨rfl, hd⟩
                have HQL := Aside0.mk (HQ15.out.go hd)
                clear hd
                go_wp2_with (fail)
                go_ret
                exact ⟨rfl, HQL.out.fr.to_below⟩
              · skip
                have hne : (⟨(keyB lx).toArray⟩ : ByteArray) ≠ ⟨(keyB lz).toArray⟩ := fun e => hxz (key_ne HNX.out HNZ.out e)
                have hnb : decide ((⟨(keyB lx).toArray⟩ : ByteArray) = ⟨(keyB lz).toArray⟩) = false := decide_eq_false hne
                have hn1 : (keyB lx).toArray ≠ (keyB lz).toArray := fun e => hne (congrArg ByteArray.mk e)
                have hn2 : ((keyB lx).toArray == (keyB lz).toArray) = false := beq_eq_false_iff_ne.2 hn1
                have hn3 : keyB lx ≠ keyB lz := fun e => hn1 (congrArg List.toArray e)
                have hn4 : (keyB lx == keyB lz) = false := beq_eq_false_iff_ne.2 hn3
                have hn5 : ((⟨(keyB lx).toArray⟩ : ByteArray) == ⟨(keyB lz).toArray⟩) = false := hn2
                obtain ⟨s14z, B14z, hNz⟩ := HQ13.out.z
                refine (key_calls V13 B14z gz s14z lz hNz HRZ.out HNZ.out HQ13.out.tab).mono ?_
                clear hNz
                rintro e V14 ⟨rfl, hd⟩
                have HQ14 := Aside0.mk (HQ13.out.go hd)
                clear hd HQ13
                go_wp2_with (fail)
                obtain ⟨s15x, B15x, hNx⟩ := HQ14.out.x
                obtain ⟨s15z, B15z, hNz⟩ := HQ14.out.z
                refine (samew_calls V14 B15x w.heap.size s15x lx B15z gz s15z lz hNx hNz HRZ.out (by omega)).mono ?_
                clear hNx hNz
                rintro e V15 ⟨rfl, hd⟩
                have HQ15 := Aside0.mk (HQ14.out.go (Fr.drawn hd))
                clear hd HQ14
                rw [decide_eq_decide.2 (same_iff HRX.out HRZ.out), decide_eq_false hxz]
                go_wp2_with (fail)
                all_goals first | (exfalso; rename_i h; exact hn3 (by first | exact h | (rw [hxy]; exact h))) | skip
                refine (alive_calls _).mono ?_
                rintro e VL ⟨rfl, hd⟩
                have HQL := Aside0.mk (HQ15.out.go hd)
                clear hd
                go_wp2_with (fail)
                go_ret
                exact ⟨by first | rfl | exact congrArg (fun b => Ending.returned (Value.bool (!b))) hn4 | exact congrArg (fun b => Ending.returned (Value.bool (!b))) (hxy ▸ hn4), HQL.out.fr.to_below⟩
            · rw [decide_eq_false hxy]
              by_cases hw1 : ∀ x, x ∈ lx → x ∈ ly
              · skip
                obtain ⟨s11x, B11x, hNx⟩ := HQ10.out.x
                obtain ⟨s11y, B11y, hNy⟩ := HQ10.out.y
                refine (within_calls V10 B11x w.heap.size s11x lx B11y W1.heap.size s11y ly hNx hNy HRY.out (by omega)).mono ?_
                clear hNx hNy
                rintro e V11 ⟨rfl, hd⟩
                have HQ11 := Aside0.mk (HQ10.out.go (Fr.drawn hd))
                clear hd HQ10
                rw [decide_eq_true hw1]
                go_wp2_with (fail)
                obtain ⟨s12y, B12y, hNy⟩ := HQ11.out.y
                obtain ⟨s12x, B12x, hNx⟩ := HQ11.out.x
                refine (within_calls V11 B12y W1.heap.size s12y ly B12x w.heap.size s12x lx hNy hNx HRX.out (by omega)).mono ?_
                clear hNy hNx
                rintro e V12 ⟨rfl, hd⟩
                have HQ12 := Aside0.mk (HQ11.out.go (Fr.drawn hd))
                clear hd HQ11
                rw [decide_eq_false (fun hw2 => hxy ((within_iff HRX.out HRY.out).1 ⟨hw1, hw2⟩))]
                go_wp2_with (fail)
                obtain ⟨s13x, B13x, hNx⟩ := HQ12.out.x
                refine (key_calls V12 B13x w.heap.size s13x lx hNx HRX.out HNX.out HQ12.out.tab).mono ?_
                clear hNx
                rintro e V13 ⟨rfl, hd⟩
                have HQ13 := Aside0.mk (HQ12.out.go hd)
                clear hd HQ12
                go_wp2_with (fail)
                by_cases hxz : lx = lz
                · skip
                  obtain ⟨s14z, B14z, hNz⟩ := HQ13.out.z
                  refine (key_calls V13 B14z gz s14z lz hNz HRZ.out HNZ.out HQ13.out.tab).mono ?_
                  clear hNz
                  rintro e V14 ⟨rfl, hd⟩
                  have HQ14 := Aside0.mk (HQ13.out.go hd)
                  clear hd HQ13
                  rw [← hxz]
                  go_wp2_with (fail)
                  obtain ⟨s15x, B15x, hNx⟩ := HQ14.out.x
                  obtain ⟨s15z, B15z, hNz⟩ := HQ14.out.z
                  refine (samew_calls V14 B15x w.heap.size s15x lx B15z gz s15z lz hNx hNz HRZ.out (by omega)).mono ?_
                  clear hNx hNz
                  rintro e V15 ⟨rfl, hd⟩
                  have HQ15 := Aside0.mk (HQ14.out.go (Fr.drawn hd))
                  clear hd HQ14
                  rw [decide_eq_decide.2 (same_iff HRX.out HRZ.out), decide_eq_true hxz]
                  go_wp2_with (fail)
                  refine (alive_calls _).mono ?_
                  rintro e VL ⟨rfl, hd⟩
                  have HQL := Aside0.mk (HQ15.out.go hd)
                  clear hd
                  go_wp2_with (fail)
                  go_ret
                  exact ⟨rfl, HQL.out.fr.to_below⟩
                · skip
                  have hne : (⟨(keyB lx).toArray⟩ : ByteArray) ≠ ⟨(keyB lz).toArray⟩ := fun e => hxz (key_ne HNX.out HNZ.out e)
                  have hnb : decide ((⟨(keyB lx).toArray⟩ : ByteArray) = ⟨(keyB lz).toArray⟩) = false := decide_eq_false hne
                  have hn1 : (keyB lx).toArray ≠ (keyB lz).toArray := fun e => hne (congrArg ByteArray.mk e)
                  have hn2 : ((keyB lx).toArray == (keyB lz).toArray) = false := beq_eq_false_iff_ne.2 hn1
                  have hn3 : keyB lx ≠ keyB lz := fun e => hn1 (congrArg List.toArray e)
                  have hn4 : (keyB lx == keyB lz) = false := beq_eq_false_iff_ne.2 hn3
                  have hn5 : ((⟨(keyB lx).toArray⟩ : ByteArray) == ⟨(keyB lz).toArray⟩) = false := hn2
                  obtain ⟨s14z, B14z, hNz⟩ := HQ13.out.z
                  refine (key_calls V13 B14z gz s14z lz hNz HRZ.out HNZ.out HQ13.out.tab).mono ?_
                  clear hNz
                  rintro e V14 ⟨rfl, hd⟩
                  have HQ14 := Aside0.mk (HQ13.out.go hd)
                  clear hd HQ13
                  go_wp2_with (fail)
                  obtain ⟨s15x, B15x, hNx⟩ := HQ14.out.x
                  obtain ⟨s15z, B15z, hNz⟩ := HQ14.out.z
                  refine (samew_calls V14 B15x w.heap.size s15x lx B15z gz s15z lz hNx hNz HRZ.out (by omega)).mono ?_
                  clear hNx hNz
                  rintro e V15 ⟨rfl, hd⟩
                  have HQ15 := Aside0.mk (HQ14.out.go (Fr.drawn hd))
                  clear hd HQ14
                  rw [decide_eq_decide.2 (same_iff HRX.out HRZ.out), decide_eq_false hxz]
                  go_wp2_with (fail)
                  all_goals first | (exfalso; rename_i h; exact hn3 (by first | exact h | (rw [hxy]; exact h))) | skip
                  refine (alive_calls _).mono ?_
                  rintro e VL ⟨rfl, hd⟩
                  have HQL := Aside0.mk (HQ15.out.go hd)
                  clear hd
                  go_wp2_with (fail)
                  go_ret
                  exact ⟨by first | rfl | exact congrArg (fun b => Ending.returned (Value.bool (!b))) hn4 | exact congrArg (fun b => Ending.returned (Value.bool (!b))) (hxy ▸ hn4), HQL.out.fr.to_below⟩
              · skip
                obtain ⟨s11x, B11x, hNx⟩ := HQ10.out.x
                obtain ⟨s11y, B11y, hNy⟩ := HQ10.out.y
                refine (within_calls V10 B11x w.heap.size s11x lx B11y W1.heap.size s11y ly hNx hNy HRY.out (by omega)).mono ?_
                clear hNx hNy
                rintro e V11 ⟨rfl, hd⟩
                have HQ11 := Aside0.mk (HQ10.out.go (Fr.drawn hd))
                clear hd HQ10
                rw [decide_eq_false hw1]
                go_wp2_with (fail)
                obtain ⟨s12x, B12x, hNx⟩ := HQ11.out.x
                refine (key_calls V11 B12x w.heap.size s12x lx hNx HRX.out HNX.out HQ11.out.tab).mono ?_
                clear hNx
                rintro e V12 ⟨rfl, hd⟩
                have HQ12 := Aside0.mk (HQ11.out.go hd)
                clear hd HQ11
                go_wp2_with (fail)
                by_cases hxz : lx = lz
                · skip
                  obtain ⟨s13z, B13z, hNz⟩ := HQ12.out.z
                  refine (key_calls V12 B13z gz s13z lz hNz HRZ.out HNZ.out HQ12.out.tab).mono ?_
                  clear hNz
                  rintro e V13 ⟨rfl, hd⟩
                  have HQ13 := Aside0.mk (HQ12.out.go hd)
                  clear hd HQ12
                  rw [← hxz]
                  go_wp2_with (fail)
                  obtain ⟨s14x, B14x, hNx⟩ := HQ13.out.x
                  obtain ⟨s14z, B14z, hNz⟩ := HQ13.out.z
                  refine (samew_calls V13 B14x w.heap.size s14x lx B14z gz s14z lz hNx hNz HRZ.out (by omega)).mono ?_
                  clear hNx hNz
                  rintro e V14 ⟨rfl, hd⟩
                  have HQ14 := Aside0.mk (HQ13.out.go (Fr.drawn hd))
                  clear hd HQ13
                  rw [decide_eq_decide.2 (same_iff HRX.out HRZ.out), decide_eq_true hxz]
                  go_wp2_with (fail)
                  refine (alive_calls _).mono ?_
                  rintro e VL ⟨rfl, hd⟩
                  have HQL := Aside0.mk (HQ14.out.go hd)
                  clear hd
                  go_wp2_with (fail)
                  go_ret
                  exact ⟨rfl, HQL.out.fr.to_below⟩
                · skip
                  have hne : (⟨(keyB lx).toArray⟩ : ByteArray) ≠ ⟨(keyB lz).toArray⟩ := fun e => hxz (key_ne HNX.out HNZ.out e)
                  have hnb : decide ((⟨(keyB lx).toArray⟩ : ByteArray) = ⟨(keyB lz).toArray⟩) = false := decide_eq_false hne
                  have hn1 : (keyB lx).toArray ≠ (keyB lz).toArray := fun e => hne (congrArg ByteArray.mk e)
                  have hn2 : ((keyB lx).toArray == (keyB lz).toArray) = false := beq_eq_false_iff_ne.2 hn1
                  have hn3 : keyB lx ≠ keyB lz := fun e => hn1 (congrArg List.toArray e)
                  have hn4 : (keyB lx == keyB lz) = false := beq_eq_false_iff_ne.2 hn3
                  have hn5 : ((⟨(keyB lx).toArray⟩ : ByteArray) == ⟨(keyB lz).toArray⟩) = false := hn2
                  obtain ⟨s13z, B13z, hNz⟩ := HQ12.out.z
                  refine (key_calls V12 B13z gz s13z lz hNz HRZ.out HNZ.out HQ12.out.tab).mono ?_
                  clear hNz
                  rintro e V13 ⟨rfl, hd⟩
                  have HQ13 := Aside0.mk (HQ12.out.go hd)
                  clear hd HQ12
                  go_wp2_with (fail)
                  obtain ⟨s14x, B14x, hNx⟩ := HQ13.out.x
                  obtain ⟨s14z, B14z, hNz⟩ := HQ13.out.z
                  refine (samew_calls V13 B14x w.heap.size s14x lx B14z gz s14z lz hNx hNz HRZ.out (by omega)).mono ?_
                  clear hNx hNz
                  rintro e V14 ⟨rfl, hd⟩
                  have HQ14 := Aside0.mk (HQ13.out.go (Fr.drawn hd))
                  clear hd HQ13
                  rw [decide_eq_decide.2 (same_iff HRX.out HRZ.out), decide_eq_false hxz]
                  go_wp2_with (fail)
                  all_goals first | (exfalso; rename_i h; exact hn3 (by first | exact h | (rw [hxy]; exact h))) | skip
                  refine (alive_calls _).mono ?_
                  rintro e VL ⟨rfl, hd⟩
                  have HQL := Aside0.mk (HQ14.out.go hd)
                  clear hd
                  go_wp2_with (fail)
                  go_ret
                  exact ⟨by first | rfl | exact congrArg (fun b => Ending.returned (Value.bool (!b))) hn4 | exact congrArg (fun b => Ending.returned (Value.bool (!b))) (hxy ▸ hn4), HQL.out.fr.to_below⟩
          · rw [decide_eq_false hin, show decide (n ∈ lz) = decide (n ∈ ly) from decide_eq_decide.2 ((HI.out n).trans ⟨fun h => h.resolve_left hin, .inr⟩)]
            go_wp2_with (fail)
            obtain ⟨s3y, B3y, hNy⟩ := HQ2.out.y
            refine (has_calls V2 B3y W1.heap.size s3y ly n hNy HRY.out (by omega)).mono ?_
            clear hNy
            rintro e V3 ⟨rfl, hd⟩
            have HQ3 := Aside0.mk (HQ2.out.go (Fr.drawn hd))
            clear hd HQ2
            clear hin
            go_wp2_with (fail)
            obtain ⟨s4z, B4z, hNz⟩ := HQ3.out.z
            refine (slen_calls _ _ _ _ _ hNz).mono ?_
            clear hNz
            rintro e V4 ⟨rfl, rfl⟩
            go_wp2_with (fail)
            obtain ⟨s5x, B5x, hNx⟩ := HQ3.out.x
            refine (slen_calls _ _ _ _ _ hNx).mono ?_
            clear hNx
            rintro e V5 ⟨rfl, rfl⟩
            go_wp2_with (fail)
            obtain ⟨s6x, B6x, hNx⟩ := HQ3.out.x
            obtain ⟨s6z, B6z, hNz⟩ := HQ3.out.z
            refine (within_calls V3 B6x w.heap.size s6x lx B6z gz s6z lz hNx hNz HRZ.out (by omega)).mono ?_
            clear hNx hNz
            rintro e V6 ⟨rfl, hd⟩
            have HQ6 := Aside0.mk (HQ3.out.go (Fr.drawn hd))
            clear hd HQ3
            rw [decide_eq_true (fun x hx => (HI.out x).2 (.inl hx))]
            go_wp2_with (fail)
            obtain ⟨s7y, B7y, hNy⟩ := HQ6.out.y
            obtain ⟨s7z, B7z, hNz⟩ := HQ6.out.z
            refine (within_calls V6 B7y W1.heap.size s7y ly B7z gz s7z lz hNy hNz HRZ.out (by omega)).mono ?_
            clear hNy hNz
            rintro e V7 ⟨rfl, hd⟩
            have HQ7 := Aside0.mk (HQ6.out.go (Fr.drawn hd))
            clear hd HQ6
            rw [decide_eq_true (fun x hx => (HI.out x).2 (.inr hx))]
            go_wp2_with (fail)
            obtain ⟨s8x, B8x, hNx⟩ := HQ7.out.x
            obtain ⟨s8y, B8y, hNy⟩ := HQ7.out.y
            refine (meets_calls V7 B8x w.heap.size s8x lx B8y W1.heap.size s8y ly hNx hNy HRY.out (by omega)).mono ?_
            clear hNx hNy
            rintro e V8 ⟨rfl, hd⟩
            have HQ8 := Aside0.mk (HQ7.out.go (Fr.drawn hd))
            clear hd HQ7
            rw [← HMM.out]
            go_wp2_with (fail)
            obtain ⟨s9x, B9x, hNx⟩ := HQ8.out.x
            obtain ⟨s9y, B9y, hNy⟩ := HQ8.out.y
            refine (meets_calls V8 B9x w.heap.size s9x lx B9y W1.heap.size s9y ly hNx hNy HRY.out (by omega)).mono ?_
            clear hNx hNy
            rintro e V9 ⟨rfl, hd⟩
            have HQ9 := Aside0.mk (HQ8.out.go (Fr.drawn hd))
            clear hd HQ8
            rw [← HMM.out]
            go_wp2_with (fail)
            obtain ⟨s10y, B10y, hNy⟩ := HQ9.out.y
            obtain ⟨s10x, B10x, hNx⟩ := HQ9.out.x
            refine (meets_calls V9 B10y W1.heap.size s10y ly B10x w.heap.size s10x lx hNy hNx HRX.out (by omega)).mono ?_
            clear hNy hNx
            rintro e V10 ⟨rfl, hd⟩
            have HQ10 := Aside0.mk (HQ9.out.go (Fr.drawn hd))
            clear hd HQ9
            rw [decide_eq_decide.2 (meets_comm ly lx), ← HMM.out]
            go_wp2_with (fail)
            obtain ⟨s11x, B11x, hNx⟩ := HQ10.out.x
            obtain ⟨s11y, B11y, hNy⟩ := HQ10.out.y
            refine (samew_calls V10 B11x w.heap.size s11x lx B11y W1.heap.size s11y ly hNx hNy HRY.out (by omega)).mono ?_
            clear hNx hNy
            rintro e V11 ⟨rfl, hd⟩
            have HQ11 := Aside0.mk (HQ10.out.go (Fr.drawn hd))
            clear hd HQ10
            rw [decide_eq_decide.2 (same_iff HRX.out HRY.out)]
            go_wp2_with (fail)
            by_cases hxy : lx = ly
            · rw [decide_eq_true hxy]
              obtain ⟨s12x, B12x, hNx⟩ := HQ11.out.x
              obtain ⟨s12y, B12y, hNy⟩ := HQ11.out.y
              refine (within_calls V11 B12x w.heap.size s12x lx B12y W1.heap.size s12y ly hNx hNy HRY.out (by omega)).mono ?_
              clear hNx hNy
              rintro e V12 ⟨rfl, hd⟩
              have HQ12 := Aside0.mk (HQ11.out.go (Fr.drawn hd))
              clear hd HQ11
              rw [decide_eq_true ((within_iff HRX.out HRY.out).2 hxy).1]
              go_wp2_with (fail)
              obtain ⟨s13y, B13y, hNy⟩ := HQ12.out.y
              obtain ⟨s13x, B13x, hNx⟩ := HQ12.out.x
              refine (within_calls V12 B13y W1.heap.size s13y ly B13x w.heap.size s13x lx hNy hNx HRX.out (by omega)).mono ?_
              clear hNy hNx
              rintro e V13 ⟨rfl, hd⟩
              have HQ13 := Aside0.mk (HQ12.out.go (Fr.drawn hd))
              clear hd HQ12
              rw [decide_eq_true ((within_iff HRX.out HRY.out).2 hxy).2]
              go_wp2_with (fail)
              obtain ⟨s14x, B14x, hNx⟩ := HQ13.out.x
              refine (key_calls V13 B14x w.heap.size s14x lx hNx HRX.out HNX.out HQ13.out.tab).mono ?_
              clear hNx
              rintro e V14 ⟨rfl, hd⟩
              have HQ14 := Aside0.mk (HQ13.out.go hd)
              clear hd HQ13
              go_wp2_with (fail)
              by_cases hxz : lx = lz
              · skip
                obtain ⟨s15z, B15z, hNz⟩ := HQ14.out.z
                refine (key_calls V14 B15z gz s15z lz hNz HRZ.out HNZ.out HQ14.out.tab).mono ?_
                clear hNz
                rintro e V15 ⟨rfl, hd⟩
                have HQ15 := Aside0.mk (HQ14.out.go hd)
                clear hd HQ14
                rw [← hxz]
                go_wp2_with (fail)
                obtain ⟨s16x, B16x, hNx⟩ := HQ15.out.x
                obtain ⟨s16z, B16z, hNz⟩ := HQ15.out.z
                refine (samew_calls V15 B16x w.heap.size s16x lx B16z gz s16z lz hNx hNz HRZ.out (by omega)).mono ?_
                clear hNx hNz
                rintro e V16 ⟨rfl, hd⟩
                have HQ16 := Aside0.mk (HQ15.out.go (Fr.drawn hd))
                clear hd HQ15
                rw [decide_eq_decide.2 (same_iff HRX.out HRZ.out), decide_eq_true hxz]
                go_wp2_with (fail)
                refine (alive_calls _).mono ?_
                rintro e VL ⟨rfl, hd⟩
                have HQL := Aside0.mk (HQ16.out.go hd)
                clear hd
                go_wp2_with (fail)
                go_ret
                exact ⟨rfl, HQL.out.fr.to_below⟩
              · skip
                have hne : (⟨(keyB lx).toArray⟩ : ByteArray) ≠ ⟨(keyB lz).toArray⟩ := fun e => hxz (key_ne HNX.out HNZ.out e)
                have hnb : decide ((⟨(keyB lx).toArray⟩ : ByteArray) = ⟨(keyB lz).toArray⟩) = false := decide_eq_false hne
                have hn1 : (keyB lx).toArray ≠ (keyB lz).toArray := fun e => hne (congrArg ByteArray.mk e)
                have hn2 : ((keyB lx).toArray == (keyB lz).toArray) = false := beq_eq_false_iff_ne.2 hn1
                have hn3 : keyB lx ≠ keyB lz := fun e => hn1 (congrArg List.toArray e)
                have hn4 : (keyB lx == keyB lz) = false := beq_eq_false_iff_ne.2 hn3
                have hn5 : ((⟨(keyB lx).toArray⟩ : ByteArray) == ⟨(keyB lz).toArray⟩) = false := hn2
                obtain ⟨s15z, B15z, hNz⟩ := HQ14.out.z
                refine (key_calls V14 B15z gz s15z lz hNz HRZ.out HNZ.out HQ14.out.tab).mono ?_
                clear hNz
                rintro e V15 ⟨rfl, hd⟩
                have HQ15 := Aside0.mk (HQ14.out.go hd)
                clear hd HQ14
                go_wp2_with (fail)
                obtain ⟨s16x, B16x, hNx⟩ := HQ15.out.x
                obtain ⟨s16z, B16z, hNz⟩ := HQ15.out.z
                refine (samew_calls V15 B16x w.heap.size s16x lx B16z gz s16z lz hNx hNz HRZ.out (by omega)).mono ?_
                clear hNx hNz
                rintro e V16 ⟨rfl, hd⟩
                have HQ16 := Aside0.mk (HQ15.out.go (Fr.drawn hd))
                clear hd HQ15
                rw [decide_eq_decide.2 (same_iff HRX.out HRZ.out), decide_eq_false hxz]
                go_wp2_with (fail)
                all_goals first | (exfalso; rename_i h; exact hn3 (by first | exact h | (rw [hxy]; exact h))) | skip
                refine (alive_calls _).mono ?_
                rintro e VL ⟨rfl, hd⟩
                have HQL := Aside0.mk (HQ16.out.go hd)
                clear hd
                go_wp2_with (fail)
                go_ret
                exact ⟨by first | rfl | exact congrArg (fun b => Ending.returned (Value.bool (!b))) hn4 | exact congrArg (fun b => Ending.returned (Value.bool (!b))) (hxy ▸ hn4), HQL.out.fr.to_below⟩
            · rw [decide_eq_false hxy]
              by_cases hw1 : ∀ x, x ∈ lx → x ∈ ly
              · skip
                obtain ⟨s12x, B12x, hNx⟩ := HQ11.out.x
                obtain ⟨s12y, B12y, hNy⟩ := HQ11.out.y
                refine (within_calls V11 B12x w.heap.size s12x lx B12y W1.heap.size s12y ly hNx hNy HRY.out (by omega)).mono ?_
                clear hNx hNy
                rintro e V12 ⟨rfl, hd⟩
                have HQ12 := Aside0.mk (HQ11.out.go (Fr.drawn hd))
                clear hd HQ11
                rw [decide_eq_true hw1]
                go_wp2_with (fail)
                obtain ⟨s13y, B13y, hNy⟩ := HQ12.out.y
                obtain ⟨s13x, B13x, hNx⟩ := HQ12.out.x
                refine (within_calls V12 B13y W1.heap.size s13y ly B13x w.heap.size s13x lx hNy hNx HRX.out (by omega)).mono ?_
                clear hNy hNx
                rintro e V13 ⟨rfl, hd⟩
                have HQ13 := Aside0.mk (HQ12.out.go (Fr.drawn hd))
                clear hd HQ12
                rw [decide_eq_false (fun hw2 => hxy ((within_iff HRX.out HRY.out).1 ⟨hw1, hw2⟩))]
                go_wp2_with (fail)
                obtain ⟨s14x, B14x, hNx⟩ := HQ13.out.x
                refine (key_calls V13 B14x w.heap.size s14x lx hNx HRX.out HNX.out HQ13.out.tab).mono ?_
                clear hNx
                rintro e V14 ⟨rfl, hd⟩
                have HQ14 := Aside0.mk (HQ13.out.go hd)
                clear hd HQ13
                go_wp2_with (fail)
                by_cases hxz : lx = lz
                · skip
                  obtain ⟨s15z, B15z, hNz⟩ := HQ14.out.z
                  refine (key_calls V14 B15z gz s15z lz hNz HRZ.out HNZ.out HQ14.out.tab).mono ?_
                  clear hNz
                  rintro e V15 ⟨rfl, hd⟩
                  have HQ15 := Aside0.mk (HQ14.out.go hd)
                  clear hd HQ14
                  rw [← hxz]
                  go_wp2_with (fail)
                  obtain ⟨s16x, B16x, hNx⟩ := HQ15.out.x
                  obtain ⟨s16z, B16z, hNz⟩ := HQ15.out.z
                  refine (samew_calls V15 B16x w.heap.size s16x lx B16z gz s16z lz hNx hNz HRZ.out (by omega)).mono ?_
                  clear hNx hNz
                  rintro e V16 ⟨rfl, hd⟩
                  have HQ16 := Aside0.mk (HQ15.out.go (Fr.drawn hd))
                  clear hd HQ15
                  rw [decide_eq_decide.2 (same_iff HRX.out HRZ.out), decide_eq_true hxz]
                  go_wp2_with (fail)
                  refine (alive_calls _).mono ?_
                  rintro e VL ⟨rfl, hd⟩
                  have HQL := Aside0.mk (HQ16.out.go hd)
                  clear hd
                  go_wp2_with (fail)
                  go_ret
                  exact ⟨rfl, HQL.out.fr.to_below⟩
                · skip
                  have hne : (⟨(keyB lx).toArray⟩ : ByteArray) ≠ ⟨(keyB lz).toArray⟩ := fun e => hxz (key_ne HNX.out HNZ.out e)
                  have hnb : decide ((⟨(keyB lx).toArray⟩ : ByteArray) = ⟨(keyB lz).toArray⟩) = false := decide_eq_false hne
                  have hn1 : (keyB lx).toArray ≠ (keyB lz).toArray := fun e => hne (congrArg ByteArray.mk e)
                  have hn2 : ((keyB lx).toArray == (keyB lz).toArray) = false := beq_eq_false_iff_ne.2 hn1
                  have hn3 : keyB lx ≠ keyB lz := fun e => hn1 (congrArg List.toArray e)
                  have hn4 : (keyB lx == keyB lz) = false := beq_eq_false_iff_ne.2 hn3
                  have hn5 : ((⟨(keyB lx).toArray⟩ : ByteArray) == ⟨(keyB lz).toArray⟩) = false := hn2
                  obtain ⟨s15z, B15z, hNz⟩ := HQ14.out.z
                  refine (key_calls V14 B15z gz s15z lz hNz HRZ.out HNZ.out HQ14.out.tab).mono ?_
                  clear hNz
                  rintro e V15 ⟨rfl, hd⟩
                  have HQ15 := Aside0.mk (HQ14.out.go hd)
                  clear hd HQ14
                  go_wp2_with (fail)
                  obtain ⟨s16x, B16x, hNx⟩ := HQ15.out.x
                  obtain ⟨s16z, B16z, hNz⟩ := HQ15.out.z
                  refine (samew_calls V15 B16x w.heap.size s16x lx B16z gz s16z lz hNx hNz HRZ.out (by omega)).mono ?_
                  clear hNx hNz
                  rintro e V16 ⟨rfl, hd⟩
                  have HQ16 := Aside0.mk (HQ15.out.go (Fr.drawn hd))
                  clear hd HQ15
                  rw [decide_eq_decide.2 (same_iff HRX.out HRZ.out), decide_eq_false hxz]
                  go_wp2_with (fail)
                  all_goals first | (exfalso; rename_i h; exact hn3 (by first | exact h | (rw [hxy]; exact h))) | skip
                  refine (alive_calls _).mono ?_
                  rintro e VL ⟨rfl, hd⟩
                  have HQL := Aside0.mk (HQ16.out.go hd)
                  clear hd
                  go_wp2_with (fail)
                  go_ret
                  exact ⟨by first | rfl | exact congrArg (fun b => Ending.returned (Value.bool (!b))) hn4 | exact congrArg (fun b => Ending.returned (Value.bool (!b))) (hxy ▸ hn4), HQL.out.fr.to_below⟩
              · skip
                obtain ⟨s12x, B12x, hNx⟩ := HQ11.out.x
                obtain ⟨s12y, B12y, hNy⟩ := HQ11.out.y
                refine (within_calls V11 B12x w.heap.size s12x lx B12y W1.heap.size s12y ly hNx hNy HRY.out (by omega)).mono ?_
                clear hNx hNy
                rintro e V12 ⟨rfl, hd⟩
                have HQ12 := Aside0.mk (HQ11.out.go (Fr.drawn hd))
                clear hd HQ11
                rw [decide_eq_false hw1]
                go_wp2_with (fail)
                obtain ⟨s13x, B13x, hNx⟩ := HQ12.out.x
                refine (key_calls V12 B13x w.heap.size s13x lx hNx HRX.out HNX.out HQ12.out.tab).mono ?_
                clear hNx
                rintro e V13 ⟨rfl, hd⟩
                have HQ13 := Aside0.mk (HQ12.out.go hd)
                clear hd HQ12
                go_wp2_with (fail)
                by_cases hxz : lx = lz
                · skip
                  obtain ⟨s14z, B14z, hNz⟩ := HQ13.out.z
                  refine (key_calls V13 B14z gz s14z lz hNz HRZ.out HNZ.out HQ13.out.tab).mono ?_
                  clear hNz
                  rintro e V14 ⟨rfl, hd⟩
                  have HQ14 := Aside0.mk (HQ13.out.go hd)
                  clear hd HQ13
                  rw [← hxz]
                  go_wp2_with (fail)
                  obtain ⟨s15x, B15x, hNx⟩ := HQ14.out.x
                  obtain ⟨s15z, B15z, hNz⟩ := HQ14.out.z
                  refine (samew_calls V14 B15x w.heap.size s15x lx B15z gz s15z lz hNx hNz HRZ.out (by omega)).mono ?_
                  clear hNx hNz
                  rintro e V15 ⟨rfl, hd⟩
                  have HQ15 := Aside0.mk (HQ14.out.go (Fr.drawn hd))
                  clear hd HQ14
                  rw [decide_eq_decide.2 (same_iff HRX.out HRZ.out), decide_eq_true hxz]
                  go_wp2_with (fail)
                  refine (alive_calls _).mono ?_
                  rintro e VL ⟨rfl, hd⟩
                  have HQL := Aside0.mk (HQ15.out.go hd)
                  clear hd
                  go_wp2_with (fail)
                  go_ret
                  exact ⟨rfl, HQL.out.fr.to_below⟩
                · skip
                  have hne : (⟨(keyB lx).toArray⟩ : ByteArray) ≠ ⟨(keyB lz).toArray⟩ := fun e => hxz (key_ne HNX.out HNZ.out e)
                  have hnb : decide ((⟨(keyB lx).toArray⟩ : ByteArray) = ⟨(keyB lz).toArray⟩) = false := decide_eq_false hne
                  have hn1 : (keyB lx).toArray ≠ (keyB lz).toArray := fun e => hne (congrArg ByteArray.mk e)
                  have hn2 : ((keyB lx).toArray == (keyB lz).toArray) = false := beq_eq_false_iff_ne.2 hn1
                  have hn3 : keyB lx ≠ keyB lz := fun e => hn1 (congrArg List.toArray e)
                  have hn4 : (keyB lx == keyB lz) = false := beq_eq_false_iff_ne.2 hn3
                  have hn5 : ((⟨(keyB lx).toArray⟩ : ByteArray) == ⟨(keyB lz).toArray⟩) = false := hn2
                  obtain ⟨s14z, B14z, hNz⟩ := HQ13.out.z
                  refine (key_calls V13 B14z gz s14z lz hNz HRZ.out HNZ.out HQ13.out.tab).mono ?_
                  clear hNz
                  rintro e V14 ⟨rfl, hd⟩
                  have HQ14 := Aside0.mk (HQ13.out.go hd)
                  clear hd HQ13
                  go_wp2_with (fail)
                  obtain ⟨s15x, B15x, hNx⟩ := HQ14.out.x
                  obtain ⟨s15z, B15z, hNz⟩ := HQ14.out.z
                  refine (samew_calls V14 B15x w.heap.size s15x lx B15z gz s15z lz hNx hNz HRZ.out (by omega)).mono ?_
                  clear hNx hNz
                  rintro e V15 ⟨rfl, hd⟩
                  have HQ15 := Aside0.mk (HQ14.out.go (Fr.drawn hd))
                  clear hd HQ14
                  rw [decide_eq_decide.2 (same_iff HRX.out HRZ.out), decide_eq_false hxz]
                  go_wp2_with (fail)
                  all_goals first | (exfalso; rename_i h; exact hn3 (by first | exact h | (rw [hxy]; exact h))) | skip
                  refine (alive_calls _).mono ?_
                  rintro e VL ⟨rfl, hd⟩
                  have HQL := Aside0.mk (HQ15.out.go hd)
                  clear hd
                  go_wp2_with (fail)
                  go_ret
                  exact ⟨by first | rfl | exact congrArg (fun b => Ending.returned (Value.bool (!b))) hn4 | exact congrArg (fun b => Ending.returned (Value.bool (!b))) (hxy ▸ hn4), HQL.out.fr.to_below⟩
    · have HNO := Aside0.mk hno
      have HF2 := Aside0.mk (HF1.out.trans hF2 (fun _ _ hf => hf))
      clear hF2 hno
      go_wp2_with (fail)
      refine (alive_calls _).mono ?_
      rintro e W5 ⟨rfl, hF5⟩
      have HF5 := Aside0.mk (HF2.out.trans hF5 (fun _ _ hf => hf))
      clear hF5
      go_wp2_with (fail)
      refine (numbers_calls _ xs A c (HF5.out.C (S := fun _ => False) 0 HR.out (fun _ _ _ => id))).mono ?_
      rintro e W6 ⟨⟨b, rfl, hb⟩, rfl⟩
      rw [hb.2 HALL.out]
      clear hb
      go_wp2_with (fail)
      refine (numbers_calls _ ys A' c' (HF5.out.C (S := fun _ => False) 0 HR'.out (fun _ _ _ => id))).mono ?_
      rintro e W7 ⟨⟨b, rfl, hb⟩, rfl⟩
      rw [numbers_false HNO.out hb]
      clear hb
      go_wp2_with (fail)
      go_ret
      exact ⟨rfl, HF5.out.to_below⟩
  · have HNO := Aside0.mk hno
    have HF1 := Aside0.mk hF1
    clear hF1 hno
    go_wp2_with (fail)
    refine (newSet_calls W1 W1.heap.size ys A' c' (Nat.le_refl _) (HF1.out.C (S := fun _ => False) 0 HR'.out (fun _ _ _ => id)) (fun ad e hp => Nat.lt_of_lt_of_le (HLT'.out ad e hp) HF1.out.size)).mono ?_
    rintro e W2 hP
    rcases hP with ⟨_, ly, svy, _, rfl, _, _, hF2⟩ | ⟨_, rfl, hF2⟩
    · have HF2 := Aside0.mk (HF1.out.trans hF2 (fun _ _ hf => hf))
      clear hF2
      go_wp2_with (fail)
      refine (alive_calls _).mono ?_
      rintro e W5 ⟨rfl, hF5⟩
      have HF5 := Aside0.mk (HF2.out.trans hF5 (fun _ _ hf => hf))
      clear hF5
      go_wp2_with (fail)
      refine (numbers_calls _ xs A c (HF5.out.C (S := fun _ => False) 0 HR.out (fun _ _ _ => id))).mono ?_
      rintro e W6 ⟨⟨b, rfl, hb⟩, rfl⟩
      rw [numbers_false HNO.out hb]
      clear hb
      go_wp2_with (fail)
      go_ret
      exact ⟨rfl, HF5.out.to_below⟩
    · have HF2 := Aside0.mk (HF1.out.trans hF2 (fun _ _ hf => hf))
      clear hF2
      go_wp2_with (fail)
      refine (alive_calls _).mono ?_
      rintro e W5 ⟨rfl, hF5⟩
      have HF5 := Aside0.mk (HF2.out.trans hF5 (fun _ _ hf => hf))
      clear hF5
      go_wp2_with (fail)
      refine (numbers_calls _ xs A c (HF5.out.C (S := fun _ => False) 0 HR.out (fun _ _ _ => id))).mono ?_
      rintro e W6 ⟨⟨b, rfl, hb⟩, rfl⟩
      rw [numbers_false HNO.out hb]
      clear hb
      go_wp2_with (fail)
      go_ret
      exact ⟨rfl, HF5.out.to_below⟩
end Go.Proofs.YtpjhflimaiaokaaDoor.Algebra
