/-
The law of what sets share with their caller, walked.
-/
import Derived.Test.YtpjhflimaiaokaaRD
import Derived.Test.YtpjhflimaiaokaaSC
import Derived.Test.YtpjhflimaiaokaaAL
namespace Go.Proofs.Ytpjhflimaiaokaa.OwnLaw
open Go.RowKit Go.Proofs.YtpjhflimaiaokaaW.PrintWords Go.Proofs.YtpjhflimaiaokaaW.PrintLast Go.Proofs.YtpjhflimaiaokaaW.PrintMore Go.Proofs.Ytpjhflimaiaokaa.Fr Go.Proofs.Ytpjhflimaiaokaa.Sets Go.Proofs.Ytpjhflimaiaokaa.SetW Go.Proofs.Ytpjhflimaiaokaa.RSet
open Go.Proofs.Ytpjhflimaiaokaa.Alive (alive_calls)

theorem rising_pairwise {l : List Int} (h : Rising l) : l.Pairwise (· < ·) := by
  rw [List.pairwise_iff_getElem]
  intro i j hi hj hij
  have := h i j (by omega) (by omega) (by omega)
  simpa only [rd, List.getD_eq_getElem?_getD, Int.toNat_natCast, List.getElem?_eq_getElem hi, List.getElem?_eq_getElem hj, Option.getD_some] using this
theorem pairwise_rising {l : List Int} (h : l.Pairwise (· < ·)) : Rising l := by
  intro i j h0 hij hj
  have h1 : i.toNat < l.length := by omega
  have h2 : j.toNat < l.length := by omega
  have := List.pairwise_iff_getElem.1 h i.toNat j.toNat h1 h2 (by omega)
  simpa only [rd, List.getD_eq_getElem?_getD, List.getElem?_eq_getElem h1, List.getElem?_eq_getElem h2, Option.getD_some] using this
theorem less_rising {us ys : List Int} (h : Rising us) : Rising (less us ys) := pairwise_rising ((rising_pairwise h).filter _)
theorem drop_less {l ys l2 : List Int} (hl : Rising l) (h : DropInv l ys l2 ys.length) : l2 = less l ys :=
  sorted_ext (rising_pairwise h.rise) (rising_pairwise (less_rising hl)) (fun x => by rw [h.mem, List.take_length]; simp [less])
theorem add_same {ys l l2 : List Int} (h : AddInv [] ys l ys.length) (h2 : AddInv [] ys l2 ys.length) : l = l2 := sorted_ext (rising_pairwise h.rise) (rising_pairwise h2.rise) (fun x => by rw [h.mem, h2.mem])

/-- A row of whole numbers stands where its block is not turned. -/
theorem int_fr {w w1 : World} {B : Nat} {v : Value} {xs : List Int} {S : Nat → Prop} (h : kI.R 3 w B (fun _ => True) v xs) (hF : Fr S w w1) (hS : ∀ k, v.ownBlock = some k → ¬ S k) : kI.R 3 w1 B (fun _ => True) v xs :=
  Kd.R_mono (hF.R (show kI.R 3 w B (fun k => v.ownBlock = some k) v xs from Kd.R_of_own (Kd.own_of_R h) (fun _ hk => hk)) hS) (fun _ _ => trivial)

section
variable {ops : Array Oper} {rest : List Oper} {o : Oper} {a : Act} {Q : Exit → Act → World → Prop}
/-- append(v, ys...) of whole numbers, however many. -/
theorem app_many {W : World} (B : Nat) (hgd : o.guard = none) (s x : Operand) (ho : o.op = .call { callee := .builtin .append, args := #[s, x], argTypes := #[50, 50] })
    (v : Value) (xs ys : List Int) (A : Option Addr) (m c : Nat) (hs : a.eval s = v) (hx : a.eval x = .slice A m c) (HO : kI.R 3 W B (fun _ => True) v xs) (HR : kI.C W A m ys) (hB : B ≤ W.heap.size) (hl : (xs.length + m) * 8 ≤ 140737488355328)
    (h : ∀ v1 w1, kI.R 3 w1 B (fun _ => True) v1 (xs ++ ys) → W.grownBy w1 v.ownBlock → (v1.ownBlock = v.ownBlock ∨ ∃ b, v1.ownBlock = some b ∧ W.heap.size ≤ b) → wpList Try.prog ops Q rest (a.put o.dst v1) w1) : wpList Try.prog ops Q (o :: rest) a W :=
  Kd.R_append_rows kI B hgd s x 50 3 _ 8 ho Try.underlying50 int_info rfl (by decide) (by decide) v xs ys A m c (fun _ => True) (fun _ => False) hs hx HO HR
    (fun y cs hy => hy) (fun _ hf => hf.elim) (fun _ _ => trivial) (Below.refl _ _) hB hl (fun v1 w1 h1 _ h3 h4 => h v1 w1 h1 h3 h4)
end
theorem two_row (W : World) (n m : Int) : kI.C (W.alloc (.cells #[.int .i64 n, .int .i64 m] 3)) (some ⟨W.heap.size, 0, none⟩) 2 [n, m] := by
  have hb := blk_new W (.cells #[.int .i64 n, .int .i64 m] 3)
  refine Kd.C_of_reads (d := (0 : Int)) ⟨rfl, by decide, fun _ => ⟨_, rfl, fun j hj => ?_⟩⟩
  rw [add_plain]
  have hj' : j = 0 ∨ j = 1 := by omega
  rcases hj' with rfl | rfl
  · exact (blk_cell hb 0).trans rfl
  · exact (blk_cell hb 1).trans rfl

/-- What lies below top while what was answered is written over. -/
structure Old (w : World) (g c2 : Nat) (xs : List Int) (gs : Nat) (sv : Value) (l : List Int) (bw q : Nat) (vw : Value) (top : Nat) (W : World) : Prop where
  room : kI.R 3 W w.heap.size (fun _ => True) (.slice (some ⟨g, 0, none⟩) (xs.length + 2) c2) (xs ++ [-5, -5])
  set : Nums W gs gs sv l
  want : RS W bw vw l
  box : W.heap[q]? = some (.cells #[vw] 53 (0, 0))
  fr : Fr (fun _ => False) w W
  hw : w.heap.size ≤ g
  hg : g < gs
  hs : gs < bw
  hsv : ∀ k, sv.ownBlock = some k → k < bw
  hq : bw ≤ q
  hqt : q < top
  hvw : ∀ k, vw.ownBlock = some k → k < top
theorem Old.step {w : World} {g c2 : Nat} {xs : List Int} {gs : Nat} {sv : Value} {l : List Int} {bw q : Nat} {vw : Value} {top : Nat} {W W1 : World} (h : Old w g c2 xs gs sv l bw q vw top W) {S : Nat → Prop} (hF : Fr S W W1) (hS : ∀ k, S k → top ≤ k) : Old w g c2 xs gs sv l bw q vw top W1 := by
  have h1 := h.hw; have h2 := h.hg; have h3 := h.hs; have h4 := h.hq; have h5 := h.hqt
  refine ⟨int_fr h.room hF (fun k hk hs => ?_), ⟨hF.blk h.set.blk (fun hs => ?_), int_fr h.set.row hF (fun k hk hs => ?_)⟩, int_fr h.want hF (fun k hk hs => ?_), hF.blk h.box (fun hs => ?_), h.fr.trans hF (fun k hk hs => ?_), h1, h2, h3, h.hsv, h4, h5, h.hvw⟩
  · have := hS k hs; simp [Value.ownBlock] at hk; omega
  · have := hS _ hs; omega
  · have := hS k hs; have := h.hsv k hk; omega
  · have := hS k hs; have := h.hvw k hk; omega
  · have := hS _ hs; omega
  · have := hS k hs; omega
/-- What is so while what was handed in is written over. -/
structure Mid (w : World) (g gs : Nat) (sv : Value) (l : List Int) (q : Nat) (vl : Value) (W : World) : Prop where
  set : Nums W gs gs sv l
  lf : RS W gs vl l
  box : W.heap[q]? = some (.cells #[vl] 53 (0, 0))
  fr : Fr (fun _ => False) w W
  hw : w.heap.size ≤ g
  hg : g < gs
  hq : gs ≤ q
theorem Mid.step {w : World} {g gs : Nat} {sv : Value} {l : List Int} {q : Nat} {vl : Value} {W W1 : World} (h : Mid w g gs sv l q vl W) (hF : Fr (fun k => k = g) W W1) : Mid w g gs sv l q vl W1 := by
  have h1 := h.hw; have h2 := h.hg; have h3 := h.hq
  refine ⟨⟨hF.blk h.set.blk (fun hs => ?_), int_fr h.set.row hF (fun k hk hs => ?_)⟩, int_fr h.lf hF (fun k hk hs => ?_), hF.blk h.box (fun hs => ?_), h.fr.trans hF (fun k hk hs => ?_), h1, h2, h3⟩
  · omega
  · have := Kd.R_base h.set.row k hk; omega
  · have := Kd.R_base h.lf k hk; omega
  · omega
  · omega
/-- A row of whole numbers, written at a place. -/
theorem row_put {W : World} {B n cap : Nat} {A : Option Addr} {zs : List Int} (h : kI.R 3 W B (fun _ => True) (.slice A n cap) zs) (k : Nat) (hk : k < n) (x : Int) : ∃ g, A = some ⟨g, 0, none⟩ ∧ B ≤ g ∧ W.cell? ⟨g, k, none⟩ = some (.int .i64 (rd zs k)) ∧ W.frozen? ⟨g, k, none⟩ = false ∧
    kI.R 3 (W.setCell ⟨g, k, none⟩ (.int .i64 x)) B (fun _ => True) (.slice A n cap) (zs.set k x) := by
  have hn := (Kd.R_reads' h).1
  obtain ⟨g, cap', e, hB, _⟩ := Kd.R_form h (by omega)
  injection e with e1 _ e3
  subst e1
  obtain ⟨ci, hci, hMi, hi0, hif⟩ := Kd.R_elem h 0 (k : Int) (by omega) (by omega)
  have hMi' : ci = [.int .i64 (rd zs k)] := hMi
  subst hMi'
  have h1 := hi0 0 _ rfl
  have h2 := hif 0
  simp only [Int.toNat_natCast, show kI.sz = 1 from rfl, Nat.mul_one, Nat.add_zero] at h1 h2
  refine ⟨g, rfl, hB, h1, h2, ?_⟩
  have := Kd.R_putn (enc := Value.int .i64) (h1 := fun _ => rfl) h (k : Int) x
  rw [Int.toNat_natCast] at this
  exact this

set_option maxRecDepth 100000 in
set_option maxHeartbeats 1000000 in
theorem law_calls (w : World) (A : Option Addr) (c : Nat) (xs : List Int) (A' : Option Addr) (c' : Nat) (ys : List Int) (hr : kI.C w A xs.length xs) (hr' : kI.C w A' ys.length ys) (hsz : xs.length * 8 ≤ 140737488351232)
    (hlt : ∀ ad, A' = some ad → 0 < ys.length → ad.block < w.heap.size) :
    Calls Try.prog 5 #[.slice A xs.length c, .slice A' ys.length c'] w fun e w' => e = .returned (.bool true) ∧ Below w.heap.size w w' := by
  have hm := Kd.C_max hr
  have hm' := Kd.C_max hr'
  have hu := Try.underlying53
  have HR := Aside0.mk hr
  have HR' := Aside0.mk hr'
  have HLT := Aside0.mk hlt
  clear hr hr' hlt
  go_enter Try.func5, Try.ntmps5
  go_wp2_with (at_builtin; first
    | (refine app_many w.heap.size rfl _ _ rfl (.slice none 0 0) [] xs A _ _ rfl rfl (Kd.R_nil _ _ _ _ _) HR.out (Nat.le_refl _) (by simp; omega) ?_; intro v1 w1 h1 h2 _; obtain ⟨A1, c1, rfl⟩ := Kd.R_slice h1; have H1 := Aside0.mk (show kI.R 3 w1 w.heap.size (fun _ => True) (.slice A1 xs.length c1) xs by simpa using h1); have HF1 := Aside0.mk ((Fr.refl (fun _ => False) w).grown h2 (fun q hq => by simp [Value.ownBlock] at hq)); clear h1 h2)
    | go_must (refine app_many w.heap.size rfl _ _ rfl (.slice A1 xs.length c1) xs [-5, -5] (some ⟨w1.heap.size, 0, none⟩) 2 2 rfl rfl (Kd.R_alloc H1.out _) (two_row _ _ _) (by have := HF1.out.size; simp; omega) (by omega) ?_; intro v2 w2 h1 h2 _; obtain ⟨g, c2, rfl, hgB, hgW, _⟩ := Kd.R_form h1 (by simp); have hcap : xs.length + 2 ≤ c2 := (by simpa using (Kd.R_reads' h1).2.1); have H2 := Aside0.mk (show kI.R 3 w2 w.heap.size (fun _ => True) (.slice (some ⟨g, 0, none⟩) (xs.length + 2) c2) (xs ++ [-5, -5]) by simpa using h1); have HF2 := Aside0.mk ((HF1.out.alloc _).grown h2 (fun q hq hlt => by have := Kd.R_base H1.out q hq; omega)); clear h1 h2))
  clear hsz
  have HMI := Aside0.mk (show kI.C w2 (some ⟨g, 0, none⟩) xs.length xs by
    have := Kd.C_take (m := xs.length) (show kI.C w2 (some ⟨g, 0, none⟩) (xs ++ [-5, -5]).length (xs ++ [-5, -5]) by have := (Kd.R_reads' H2.out).2.2; simpa using this) (by simp)
    simpa using this)
  have HGB := Lib.hid hgB
  have HGW := Lib.hid hgW
  have HCAP := Lib.hid hcap
  clear hgB hgW hcap
  refine (newSet_calls w2 w2.heap.size xs (some ⟨g, 0, none⟩) c2 (Nat.le_refl _) HMI.out (fun ad e _ => by injection e with e; subst e; exact HGW.out)).mono ?_
  rintro e W3 hP
  rcases hP with ⟨hall, l, sv, hA, rfl, hN, hO, hF3⟩ | ⟨hno, rfl, hF3⟩
  · have HN := Aside0.mk hN
    have HA := Aside0.mk hA
    have HO := Aside0.mk hO
    have HALL := Aside0.mk hall
    have HF3 := Aside0.mk (HF2.out.trans hF3 (fun _ _ hf => hf))
    have H3 := Aside0.mk (hF3.R H2.out (fun _ _ => id))
    have HSZ := Lib.hid hF3.size
    have HSB := Lib.hid (blk_lt hN.blk)
    clear hN hA hO hall hF3
    go_wp2_with (fail)
    refine (radd_calls W3 W3.heap.size (.slice none 0 0) [] xs A c (Kd.R_nil _ _ _ _ _) (Nat.le_refl _) (by intro i j _ _ hj; simp at hj; omega) (by simp) (HF3.out.C (S := fun _ => False) 0 HR.out (fun _ _ _ => id))).mono ?_
    rintro e W4 ⟨vw, us, hW, hF4, hP⟩
    rcases hP with ⟨_, hU, rfl⟩ | ⟨⟨y, hy, hz⟩, _, _⟩
    rotate_left
    · rw [HALL.out y hy] at hz; cases hz
    obtain rfl := add_same HA.out hU
    obtain ⟨Aw, cw, rfl⟩ := Kd.R_slice hW
    have HW := Aside0.mk hW
    have HF4 := Aside0.mk (HF3.out.trans hF4 (fun _ _ hf => hf))
    have H4 := Aside0.mk (hF4.R H3.out (fun _ _ => id))
    have HN4 := Aside0.mk (show Nums W4 w2.heap.size w2.heap.size sv l from ⟨hF4.blk HN.out.blk id, hF4.R HN.out.row (fun _ _ => id)⟩)
    have HSZ2 := Lib.hid hF4.size
    clear hW hF4 hU
    have hll : l.length ≤ 1048576 := HA.out.len
    have HO4 := Aside0.mk (show Old w g c2 xs w2.heap.size sv l W3.heap.size W4.heap.size (.slice Aw l.length cw) (W4.heap.size + 1) (W4.alloc (.cells #[.slice Aw l.length cw] 53)) from
      ⟨Kd.R_alloc H4.out _, HN4.out.alloc _, Kd.R_alloc HW.out _, blk_new _ _, HF4.out.alloc _, HGB.out, HGW.out, HSB.out, fun k hk => ((Kd.R_bound HN.out.row).1 k hk).2.2.1, HSZ2.out, Nat.lt_succ_self _, fun k hk => Nat.lt_succ_of_lt ((Kd.R_bound HW.out).1 k hk).2.2.1⟩)
    have HCAP2 := HCAP
    clear HN H3 HW H4 HN4 HF4 HF3 HMI H2 HF2 H1 HF1 HO HGB HGW HALL HSZ HSB HSZ2 HCAP
    go_wp2_with (fail)
    refine (all_calls _ _ _ sv l HO4.out.set (by omega)).mono ?_
    rintro e W5 ⟨v5, rfl, hR5, hF5⟩
    obtain ⟨A5, c5, rfl⟩ := Kd.R_slice hR5
    have HO5 := Aside0.mk (HO4.out.step hF5 (fun _ hf => hf.elim))
    have HR5 := Aside0.mk (show kI.R 3 W5 (W4.heap.size + 1) (fun _ => True) (.slice A5 l.length c5) l by simpa using hR5)
    clear hR5 hF5 HO4
    go_wp2_with (fail)
    go_loopw [54] (fun a W => ∃ (k : Nat) (zs : List Int), a = .int .i64 k ∧ k ≤ l.length ∧ Aside0 (Old w g c2 xs w2.heap.size sv l W3.heap.size W4.heap.size (.slice Aw l.length cw) (W4.heap.size + 1) W) ∧ Aside0 (zs.length = l.length ∧ kI.R 3 W (W4.heap.size + 1) (fun _ => True) (.slice A5 l.length c5) zs)) (fun a _ => l.length - (intOf a).toNat)
    case atStart => exact ⟨0, l, rfl, Nat.zero_le _, HO5, ⟨rfl, HR5.out⟩⟩
    case round =>
      clear HO5 HR5
      obtain ⟨k, zs, rfl, hk, HO, HZ⟩ := hrel
      by_cases hlt : k < l.length
      · obtain ⟨g5, e, hB5, hc5, hf5, hP⟩ := row_put HZ.out.2 k hlt 77
        subst e
        have HP := Aside0.mk hP
        clear hP
        go_wp2_with (fail)
        exact ⟨⟨k + 1, zs.set k 77, by go_num, by omega, Aside0.mk (HO.out.step (S := fun q => q = g5) ((Fr.refl _ _).set _ (fun _ => rfl)) (fun q hq => by omega)), ⟨by simp [HZ.out.1], HP.out⟩⟩, by simp [intOf]; omega⟩
      · have HLZ := Lib.hid HZ.out.1
        have hz4 : zs.length ≤ 1048576 := by rw [HLZ.out]; exact hll
        go_wp2_with (at_builtin; go_must (refine app_ints (W4.heap.size + 1) rfl _ _ rfl (.slice A5 l.length c5) zs [78, 79] (some ⟨wr.heap.size, 0, none⟩) 2 2 rfl rfl (Kd.R_alloc HZ.out.2 _) (two_row _ _ _) (by have := blk_lt HO.out.box; simp; omega) (by omega) ?_; intro v6 w6 h1 h2 _; obtain ⟨A6, c6, rfl⟩ := Kd.R_slice h1; have HO6 := Aside0.mk (HO.out.step (S := fun q => (Value.slice A5 l.length c5).ownBlock = some q) (((Fr.refl _ wr).alloc _).grown h2 (fun q hq _ => hq)) (fun q hq => Kd.R_base HZ.out.2 q hq)); clear h1 h2))
        have HAW := Aside0.mk (show Away w6 w2.heap.size sv A' ys.length ys from ⟨HO6.out.fr.C (S := fun _ => False) 0 HR'.out (fun _ _ _ => id), fun ad e hp => by
          have h1 := HLT.out ad e hp
          have h2 := HO6.out.hw
          have h3 := HO6.out.hg
          have h4 := HO6.out.fr.size
          exact ⟨by omega, fun e2 => by have := Kd.R_base HO6.out.set.row _ e2; omega, by omega⟩⟩)
        have hb6 : w2.heap.size ≤ w6.heap.size := by have := blk_lt HO6.out.set.blk; omega
        refine (drop_calls w6 w2.heap.size w2.heap.size sv l ys A' c' HO6.out.set hb6 HA.out.rise hll HAW.out).mono ?_
        rintro e W7 ⟨l2, hD, hl2, rfl, sv2, hN7, hF7, _⟩
        obtain rfl := drop_less HA.out.rise hD
        have hnot : ∀ k, W3.heap.size ≤ k → ¬ SFoot w2.heap.size sv k := fun k hk hs => hs.elim (fun e => by have := HO6.out.hs; omega) (fun e => by have := HO6.out.hsv k e; omega)
        have HN7 := Aside0.mk hN7
        have HW7 := Aside0.mk (int_fr HO6.out.want hF7 (fun k hk => hnot k (Kd.R_base HO6.out.want k hk)))
        have HB7 := Aside0.mk (hF7.blk HO6.out.box (hnot _ HO6.out.hq))
        have HM7 := Aside0.mk (int_fr HO6.out.room hF7 (fun k hk hs => by
          have e : g = k := by simpa [Value.ownBlock] using hk
          have := HO6.out.hg
          exact hs.elim (fun e => by omega) (fun e => by have := Kd.R_base HO6.out.set.row k e; omega)))
        have HF7 := Aside0.mk (HO6.out.fr.trans hF7 (fun k hk hs => by
          have := HO6.out.hw
          have := HO6.out.hg
          exact hs.elim (fun e => by omega) (fun e => by have := Kd.R_base HO6.out.set.row k e; omega)))
        have hc7 : W7.cell? ⟨W4.heap.size, 0, none⟩ = some (.slice Aw l.length cw) := (blk_cell HB7.out 0).trans rfl
        have HX := Aside0.mk (show w.heap.size ≤ g ∧ g < w2.heap.size ∧ w2.heap.size ≤ W7.heap.size from ⟨HO6.out.hw, HO6.out.hg, by have := hF7.size; omega⟩)
        have hsz7 : W3.heap.size ≤ W7.heap.size := by have := blk_lt HB7.out; have := HO6.out.hq; omega
        clear hD hN7 hF7 hnot hb6
        go_wp2_with (fail)
        refine (rdrop_calls W7 W3.heap.size _ l ys A' c' HW7.out hsz7 hll (HF7.out.C (S := fun _ => False) 0 HR'.out (fun _ _ _ => id))).mono ?_
        obtain ⟨l3, hl3⟩ : ∃ l3, less l ys = l3 := ⟨_, rfl⟩
        rintro e W8 ⟨vl, hR8, hF8, rfl⟩
        rw [hl3] at HN7
        rw [hl3] at hR8 ⊢
        obtain ⟨A8, c8, rfl⟩ := Kd.R_slice hR8
        have HF8 := Aside0.mk (HF7.out.trans hF8 (fun _ _ hf => hf))
        have HM8 := Aside0.mk (Kd.R_alloc (hF8.R HM7.out (fun _ _ => id)) (.cells #[.slice A8 l3.length c8] 53))
        have HMID := Aside0.mk (show Mid w g w2.heap.size sv2 l3 W8.heap.size (.slice A8 l3.length c8) (W8.alloc (.cells #[.slice A8 l3.length c8] 53)) from
          ⟨⟨blk_alloc (hF8.blk HN7.out.blk id) _, Kd.R_alloc (hF8.R HN7.out.row (fun _ _ => id)) _⟩, Kd.R_alloc (Kd.R_lower hR8 (by have := HO6.out.hs; omega)) _, blk_new _ _, HF8.out.alloc _, HX.out.1, HX.out.2.1, by have := hF8.size; have := HX.out.2.2; omega⟩)
        clear hR8 hF8 hc7 hsz7
        go_wp2_with (fail)
        have HCM := Aside0.mk (show kI.C (W8.alloc (.cells #[.slice A8 l3.length c8] 53)) (some ⟨g, 0, none⟩) (xs ++ [-5, -5]).length (xs ++ [-5, -5]) by have := (Kd.R_reads' HM8.out).2.2; simpa using this)
        refine (same_calls _ xs xs _ _ _ _ (by have := Kd.C_take (m := xs.length) HCM.out (by simp); simpa using this) (HMID.out.fr.C (S := fun _ => False) 0 HR.out (fun _ _ _ => id))).mono ?_
        rintro e W9 ⟨rfl, hd⟩
        rw [decide_eq_true rfl]
        have HMID9 := Aside0.mk (HMID.out.step (Fr.drawn hd))
        have HM9 := Aside0.mk (int_fr HM8.out (Fr.drawn (S := fun _ => False) hd) (fun _ _ => id))
        have hcr : W9.cell? ⟨g, xs.length, none⟩ = some (.int .i64 (-5)) := (Fr.drawn (S := fun _ => False) hd).cell (by
          obtain ⟨ad, e, hx⟩ := Kd.at_int HCM.out (xs.length : Int) (by omega) (by simp; omega)
          injection e with e
          subst e
          simp only [Int.toNat_natCast, add_plain] at hx
          rw [hx]
          simp [rd]) id
        have HMZ := Aside0.mk (show kI.R 3 W9 w.heap.size (fun _ => True) (.slice (some ⟨g, 0, none⟩) xs.length c2) xs by have := Kd.R_take (m := xs.length) HM9.out (by simp); simpa using this)
        have hl3 : l3.length ≤ 1048576 := by rw [← hl3]; exact Nat.le_trans (less_le _ _) hll
        clear hd HMID HM8 HCM
        go_wp2_with (fail)
        clear HM9 HF8 HW7 HB7 HM7 HF7 HX HAW HO6 HZ HO HN7 hcr HLZ hz4 hlt hk HA hm' HR HR' HLT HCAP2 hll
        go_loopw [86] (fun a W => ∃ (k : Nat) (zs : List Int), a = .int .i64 k ∧ k ≤ xs.length ∧ Aside0 (Mid w g w2.heap.size sv2 l3 W8.heap.size (.slice A8 l3.length c8) W) ∧ Aside0 (kI.R 3 W w.heap.size (fun _ => True) (.slice (some ⟨g, 0, none⟩) xs.length c2) zs)) (fun a _ => xs.length - (intOf a).toNat)
        case atStart => exact ⟨0, xs, rfl, Nat.zero_le _, HMID9, HMZ⟩
        case round =>
          clear HMID9 HMZ
          obtain ⟨k, zs, rfl, hk, HM, HZ⟩ := hrel
          by_cases hlt : k < xs.length
          · obtain ⟨g5, e, hB5, hc5, hf5, hP⟩ := row_put HZ.out k hlt 3
            injection e with e
            injection e with e
            subst e
            have HP := Aside0.mk hP
            clear hP
            go_wp2_with (fail)
            exact ⟨⟨k + 1, zs.set k 3, by go_num, by omega, Aside0.mk (HM.out.step ((Fr.refl _ _).set _ (fun _ => rfl))), HP⟩, by simp [intOf]; omega⟩
          · have hcb : wr.cell? ⟨W8.heap.size, 0, none⟩ = some (.slice A8 l3.length c8) := (blk_cell HM.out.box 0).trans rfl
            go_wp2_with (fail)
            have HMD := Aside0.mk (show Mid w g w2.heap.size sv2 l3 W8.heap.size (.slice A8 l3.length c8) wr.drew from HM.out.step (Fr.refl _ _).drew)
            go_region_with (first
              | (go_at_call 19; refine (all_calls _ w2.heap.size w2.heap.size sv2 l3 HMD.out.set (by omega)).mono ?_; rintro e W10 ⟨v10, rfl, hR10, hF10⟩; obtain ⟨A10, c10, rfl⟩ := Kd.R_slice hR10; have HM10 := Aside0.mk (HMD.out.step (hF10.mono (fun _ hf => hf.elim))); have HR10 := Aside0.mk hR10; have hcb2 := (blk_cell HM10.out.box 0).trans (show _ = some (Value.slice A8 l3.length c8) from rfl); clear hR10 hF10)
              | (go_at_call 21; refine (same_calls _ l3 l3 _ _ _ _ (Kd.R_reads' HR10.out).2.2 (Kd.R_reads' HM10.out.lf).2.2).mono ?_; rintro e W11 ⟨rfl, hd⟩; rw [decide_eq_true rfl]; have HF11 := Aside0.mk (HM10.out.fr.drawn' hd); clear hd)
              | (go_at_call 7; refine (alive_calls _).mono ?_; rintro e W12 ⟨rfl, hF12⟩; have HF12 := Aside0.mk (HF11.out.trans hF12 (fun _ _ hf => hf)); clear hF12))
            all_goals go_wp2_with (fail)
            all_goals go_ret
            all_goals exact ⟨rfl, HF12.out.to_below⟩
  · have HNO := Aside0.mk hno
    have HF3 := Aside0.mk (HF2.out.trans hF3 (fun _ _ hf => hf))
    clear hF3 hno
    go_wp2_with (fail)
    refine (numbers_calls _ xs A c (HF3.out.C (S := fun _ => False) 0 HR.out (fun _ _ _ => id))).mono ?_
    rintro e W4 ⟨⟨b, rfl, hb⟩, rfl⟩
    have hb0 : b = false := by
      cases b with
      | false => rfl
      | true =>
        obtain ⟨y, hy, hz⟩ := HNO.out
        rw [hb.1 rfl y hy] at hz
        cases hz
    subst hb0
    clear hb
    go_wp2_with (fail)
    refine (alive_calls _).mono ?_
    rintro e W5 ⟨rfl, hF5⟩
    go_wp2_with (fail)
    go_ret
    exact ⟨rfl, (HF3.out.trans hF5 (fun _ _ hf => hf)).to_below⟩
end Go.Proofs.Ytpjhflimaiaokaa.OwnLaw
