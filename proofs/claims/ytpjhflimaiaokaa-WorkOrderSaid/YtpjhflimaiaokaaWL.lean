/-
The law of the lists, walked: each round keeps work's list and the reference's list the same.
-/
import Derived.Test.YtpjhflimaiaokaaHP
import Derived.Test.YtpjhflimaiaokaaAL
import Derived.Lib.Hide
import Derived.Outline
namespace Go.Proofs.Ytpjhflimaiaokaa.Lists
open Go.RowKit Go.Proofs.YtpjhflimaiaokaaW.PrintWords Go.Proofs.YtpjhflimaiaokaaW.PrintLast Go.Proofs.YtpjhflimaiaokaaW.PrintMore Go.Proofs.Ytpjhflimaiaokaa.Fr
open Go.Proofs.Ytpjhflimaiaokaa.Alive (alive_calls)
open Go.Proofs.Ytpjhflimaiaokaa.Heaps (Same same_nil)
open Go.Proofs.Ytpjhflimaiaokaa.Hand

/-- A call of the script. -/
structure Sc where
  pop : Bool
  n : Int
  w : Int
def Sc.z : Sc := ⟨false, 0, 0⟩
def kS : Kd Sc := Kd.iso (Kd.pair Kd.bool (Kd.pair (Kd.int .i64) (Kd.int .i64))) (fun x : Sc => (x.pop, x.n, x.w))
theorem kS_open {w : World} {x : Sc} {cs : List Value} (h : kS.K w x cs) : cs = [.bool x.pop, .int .i64 x.n, .int .i64 x.w] := by
  obtain ⟨_, _, rfl, rfl, _, _, rfl, rfl, rfl⟩ := h
  exact rfl
theorem at_sc {w : World} {A : Option Addr} {n : Nat} {xs : List Sc} (h : Kd.C kS w A n xs) (i : Int) (h0 : 0 ≤ i) (h1 : i < n) : ∃ ad , A = some ad ∧ w.cell? (ad.add (i.toNat * 3)) = some (.bool (xs.getD i.toNat Sc.z).pop) ∧
    w.cell? ⟨(ad.add (i.toNat * 3)).block, (ad.add (i.toNat * 3)).off + 1, none⟩ = some (.int .i64 (xs.getD i.toNat Sc.z).n) ∧ w.cell? ⟨(ad.add (i.toNat * 3)).block, (ad.add (i.toNat * 3)).off + 2, none⟩ = some (.int .i64 (xs.getD i.toNat Sc.z).w) := by
  obtain ⟨ad, c, e, _, hK, hc0⟩ := Kd.C_get h Sc.z i h0 h1
  have hc : ∀ j u, c[j]? = some u → w.cell? (ad.add (i.toNat * 3 + j)) = some u := hc0
  obtain rfl := kS_open hK
  exact ⟨ad, e, hc 0 _ rfl, by rw [← add_field _ _ 1 (by omega)]; exact hc 1 _ rfl, by rw [← add_field _ _ 2 (by omega)]; exact hc 2 _ rfl⟩

theorem Tasks.fr {w w1 : World} {B g : Nat} {sv : Value} {ts : List Tk} (h : Tasks w B g sv ts) (hF : Fr (fun _ => False) w w1) : Tasks w1 B g sv ts := ⟨hF.blk h.blk id, hF.R h.row (fun _ _ => id)⟩
theorem RList.fr {w w1 : World} {B : Nat} {rv : Value} {us : List Tk} (h : RList w B rv us) (hF : Fr (fun _ => False) w w1) : RList w1 B rv us := hF.R h (fun _ _ => id)
theorem Tasks.above {W : World} {B g : Nat} {sv : Value} {ts : List Tk} (hT : Tasks W B g sv ts) (hg : B ≤ g) (k : Nat) (hk : k < B) : ¬ Foot g sv k := fun hf => hf.elim (fun e => by omega) (fun e => by have := ((Kd.R_bound hT.row).1 k e).2.1; omega)
theorem Tasks.older {W : World} {B g : Nat} {sv : Value} {ts : List Tk} (hT : Tasks W B g sv ts) : ¬ Foot g sv W.heap.size := fun hf => hf.elim (fun e => by have := blk_lt hT.blk; omega) (fun e => by have := ((Kd.R_bound hT.row).1 _ e).2.2.1; omega)
theorem Tasks.set {w : World} {B g x : Nat} {sv : Value} {ts : List Tk} {cs : Array Value} (h : Tasks w B g sv ts) (hb : w.heap[x]? = some (.cells cs 27 (0, 0))) (j : Nat) (u : Value) : Tasks (w.setCell ⟨x, j, none⟩ u) B g sv ts :=
  ⟨(Fr.set (S := fun k => k = x) (Fr.refl _ _) u (fun _ => rfl)).blk h.blk (blk_ne h.blk hb (by decide)), Kd.R_mono (Kd.R_set h.row hb (by intro q hq; simp only [List.mem_cons] at hq; rcases hq with rfl | hq; decide; exact absurd hq (by simp [kT, Kd.iso, Kd.pair, Kd.int, Kd.scalar])) j u) (fun _ _ => trivial)⟩
theorem RList.foot {w w1 : World} {B B' g : Nat} {sv rv : Value} {ts us : List Tk} (h : RList w B rv us) (hT : Tasks w B' g sv ts) (hF : Fr (Foot g sv) w w1) : RList w1 B rv us := by
  refine Kd.R_mono (hF.R (Kd.R_bound h) (fun k hk hf => ?_)) (fun _ _ => trivial)
  obtain ⟨_, _, _, q, hq, cells, hc⟩ := hk
  have hq : q = 34 := by
    simp only [List.mem_cons] at hq
    rcases hq with rfl | hq
    · rfl
    · exact absurd hq (by simp [kT, Kd.iso, Kd.pair, Kd.int, Kd.scalar])
  subst hq
  rcases hf with rfl | hf
  · have := hT.blk; rw [hc] at this; injection this with this; injection this with _ h2; exact absurd h2 (by decide)
  · obtain ⟨cells2, hc2⟩ := Kd.R_typed hT.row k hf
    rw [hc] at hc2; injection hc2 with this; injection this with _ h2; exact absurd h2 (by decide)

/-- What is so at the head of each round. -/
structure LW (w : World) (g br : Nat) (W : World) : Prop where
  ex : ∃ sv ts rv us, Tasks W w.heap.size g sv ts ∧ W.heap[br]? = some (.cells #[rv] 27 (0, 0)) ∧ RList W w.heap.size rv us ∧ Same ts us
  fr : Fr (fun _ => False) w W
  hg : w.heap.size ≤ g
  hbr : w.heap.size ≤ br

/-- The end of a round: the list of the reference stands in its block. -/
theorem LW.next {w W W5 : World} {g br : Nat} {sv rv rv0 : Value} {ts us : List Tk} (hT : Tasks W5 w.heap.size g sv ts) (hb : W5.heap[br]? = some (.cells #[rv0] 27 (0, 0))) (hR : RList W5 w.heap.size rv us) (hS : Same ts us)
    (hF : Fr (fun _ => False) w W5) (hL : LW w g br W) (q : Nat) : LW w g br ((W5.setCell ⟨br, 0, none⟩ rv).drewN q) :=
  ⟨⟨sv, ts, rv, us, (Tasks.set hT hb 0 rv).drewN q, by
    have := blk_set hb 0 rv; exact this, Kd.R_drewN (hR.set hb 0 rv) q, hS⟩, (hF.set rv (fun h => absurd hL.hbr (by omega))).drewN q, hL.hg, hL.hbr⟩

set_option maxRecDepth 100000 in
set_option maxHeartbeats 1000000 in
theorem law_calls (w : World) (A : Option Addr) (c : Nat) (ss : List Sc) (hr : kS.C w A ss.length ss) :
    Calls Try.prog 3 #[.slice A ss.length c] w fun e w' => e = .returned (.bool true) ∧ Below w.heap.size w w' := by
  have hm := Kd.C_max hr
  have hu := Try.underlying27
  have hu2 := Try.underlying34
  have hu3 := Try.underlying30
  have HR := Aside0.mk hr
  clear hr
  go_enter Try.func3, Try.ntmps3
  go_wp2_with (fail)
  refine (lNew_calls w w.heap.size).mono ?_
  rintro e W1 ⟨rfl, hT1, hF1⟩
  have HT1 := Aside0.mk hT1
  have HF1 := Aside0.mk hF1
  clear hT1 hF1
  go_wp2_with (fail)
  refine (alive_calls _).mono ?_
  rintro e W2 ⟨rfl, hF2⟩
  have HW := Aside0.mk (show LW w w.heap.size W1.heap.size W2 from
    ⟨⟨.slice none 0 0, [], .slice none 0 0, [], Tasks.fr (HT1.out.alloc _) hF2, hF2.blk (blk_new _ _) id, Kd.R_nil _ _ _ _ _, same_nil⟩, (HF1.out.alloc _).trans hF2 (fun _ _ hf => hf), Nat.le_refl _, HF1.out.size⟩)
  clear hF2 HT1 HF1
  go_wp2_with (fail)
  go_loopw [28] (fun a W => ∃ i : Nat, a = .int .i64 i ∧ i ≤ ss.length ∧ Aside0 (LW w w.heap.size W1.heap.size W)) (fun a _ => ss.length - (intOf a).toNat)
  case atStart => exact ⟨0, rfl, Nat.zero_le _, HW⟩
  case round =>
    obtain ⟨i, rfl, hi, HL⟩ := hrel
    obtain ⟨sv, ts, rv, us, hT, hb, hR, hS⟩ := HL.out.ex
    obtain ⟨A2, c2, rfl⟩ := Kd.R_slice hR
    have HT := Aside0.mk hT
    have HB := Aside0.mk hb
    have HRL := Aside0.mk hR
    have HS := Aside0.mk hS
    have hle := hS.le
    have hle2 : ts.length ≤ 1048576 := by rw [hS.len]; exact hle
    have HLEN := Lib.hid hS.len
    clear hT hb hR hS
    have hq1 : ((ts.length : Int) == (us.length : Int)) = true := by rw [HLEN.out]; simp
    have hq2 : ((ts.length : Int) != (us.length : Int)) = false := by rw [HLEN.out]; simp
    have hc : wr.cell? ⟨W1.heap.size, 0, none⟩ = some (.slice A2 us.length c2) := (blk_cell HB.out 0).trans rfl
    by_cases hlt : i < ss.length
    · obtain ⟨ad, hA, s1, s2, s3⟩ := at_sc HR.out (i : Int) (by omega) (by omega)
      subst hA
      simp only [Int.toNat_natCast] at s1 s2 s3
      replace s1 := HL.out.fr.cell s1 id
      replace s2 := HL.out.fr.cell s2 id
      replace s3 := HL.out.fr.cell s3 id
      generalize ss.getD i Sc.z = s at s1 s2 s3
      cases hp : s.pop with
      | true =>
        rw [hp] at s1
        clear hp
        go_wp2_with (fail)
        have hgb : w.heap.size ≠ W1.heap.size := blk_ne HT.out.blk HB.out (by decide)
        have HNE := Aside0.mk (Kd.R_ne HT.out.row HB.out (by decide))
        refine (lPop_calls _ w.heap.size w.heap.size sv ts (Tasks.alloc HT.out _) (by omega)).mono ?_
        rintro e W3 ⟨rfl, sv3, hT3, hF3, hO3⟩
        have hb3 := hF3.blk (blk_alloc HB.out _) (fun hk => hk.elim (fun e => hgb e.symm) (fun e => HNE.out e.symm))
        have HB3 := Aside0.mk hb3
        have HR3 := Aside0.mk (RList.foot (Kd.R_alloc HRL.out _) (Tasks.alloc HT.out _) hF3)
        have HT3 := Aside0.mk hT3
        have HF3 := Aside0.mk ((HL.out.fr.alloc _).trans hF3 (fun k hk hf => Tasks.above HT.out (Nat.le_refl _) k hk hf))
        have HO3 := Aside0.mk hO3
        have hc3 : W3.cell? ⟨W1.heap.size, 0, none⟩ = some (.slice A2 us.length c2) := (blk_cell hb3 0).trans rfl
        have hsz := HF3.out.size
        clear hb3 hT3 hF3 hO3
        go_wp2_with (fail)
        refine (rPop_calls W3 w.heap.size _ us HR3.out hsz hle).mono ?_
        rintro e W4 ⟨v', t, b, us', rfl, hp, hR4, hF4⟩
        obtain ⟨e1, e2, hS4⟩ := HS.out.pop hp
        obtain ⟨A4, c4, rfl⟩ := Kd.R_slice hR4
        rw [e1, e2]
        have HT4 := Aside0.mk (Tasks.fr HT3.out hF4)
        have HR4 := Aside0.mk hR4
        have HS4 := Aside0.mk hS4
        have HF4 := Aside0.mk (HF3.out.trans hF4 (fun _ _ hf => hf.elim))
        have hb4 := hF4.blk HB3.out id
        have HB4 := Aside0.mk hb4
        have hc4 : W4.cell? ⟨W1.heap.size, 0, none⟩ = some (.slice A2 us.length c2) := (blk_cell hb4 0).trans rfl
        have hb4' := blk_alloc (blk_alloc hb4 (.cells #[.slice A4 us'.length c4] 27)) (.cells #[.int .i64 t.n, .int .i64 t.w] 34)
        have hc5 := (blk_cell hb4' 0).trans (show _ = some (Value.slice A2 us.length c2) from rfl)
        have hf5 := blk_frozen hb4' 0
        have hd3 : W4.heap.size ≠ W1.heap.size := fun e => by have := blk_lt hb4; omega
        have hd4 : W4.heap.size + 1 ≠ W1.heap.size := fun e => by have := blk_lt hb4; omega
        have hd1 : W1.heap.size ≠ W4.heap.size := Nat.ne_of_lt (blk_lt hb4)
        have hd2 : W1.heap.size ≠ W4.heap.size + 1 := by have := blk_lt hb4; omega
        have HLN := Lib.hid hS4.len
        have hq3 : (((lPopF ts).2.2.length : Int) == (us'.length : Int)) = true := by rw [HLN.out]; simp
        have hq4 : (((lPopF ts).2.2.length : Int) != (us'.length : Int)) = false := by rw [HLN.out]; simp
        have HB5 := Aside0.mk hb4'
        clear hp hR4 hS4 hF4 hb4 hb4' e1 e2
        go_wp2_with (fail)
        go_quiet ((go_at_call 12; exact Calls.quiet_of_same ((lLen_calls _ _ _ _ _ (Tasks.drewN (Tasks.set (Tasks.alloc (Tasks.alloc HT4.out _) _) HB5.out 0 _) _)).mono fun _ _ h => ⟨h.1, h.2.symm⟩)))
        go_wp2_with (fail)
        refine ⟨⟨i + 1, by simp, by omega, Aside0.mk (LW.next ((HT4.out.alloc _).alloc _) HB5.out (Kd.R_alloc (Kd.R_alloc HR4.out _) _) HS4.out ((HF4.out.alloc _).alloc _) HL.out _)⟩, ?_⟩
        show ss.length - ((i : Int) + 1).toNat < ss.length - (i : Int).toNat
        omega
      | false =>
        rw [hp] at s1
        clear hp
        go_wp2_with (fail)
        have hgb : w.heap.size ≠ W1.heap.size := blk_ne HT.out.blk HB.out (by decide)
        have HNE := Aside0.mk (Kd.R_ne HT.out.row HB.out (by decide))
        refine (lPush_calls _ w.heap.size w.heap.size sv ts (Tasks.alloc HT.out _) (by simp; have := HL.out.fr.size; omega) hle2 s.n s.w).mono ?_
        rintro e W3 ⟨b1, k1, ts', rfl, hp1, sv3, hT3, hF3, hO3⟩
        have hb3 := hF3.blk (blk_alloc HB.out _) (fun hk => hk.elim (fun e => hgb e.symm) (fun e => HNE.out e.symm))
        have HB3 := Aside0.mk hb3
        have HR3 := Aside0.mk (RList.foot (Kd.R_alloc HRL.out _) (Tasks.alloc HT.out _) hF3)
        have HT3 := Aside0.mk hT3
        have HF3 := Aside0.mk ((HL.out.fr.alloc _).trans hF3 (fun k hk hf => Tasks.above HT.out (Nat.le_refl _) k hk hf))
        have HO3 := Aside0.mk hO3
        have HP1 := Aside0.mk hp1
        have hc3 : W3.cell? ⟨W1.heap.size, 0, none⟩ = some (.slice A2 us.length c2) := (blk_cell hb3 0).trans rfl
        have hsz := HF3.out.size
        have hbs := hF3.blk (blk_new wr (.cells #[.bool false, .int .i64 s.n, .int .i64 s.w] 30)) (Tasks.older HT.out)
        have hs1 : W3.cell? ⟨wr.heap.size, 1, none⟩ = some (.int .i64 s.n) := (blk_cell hbs 1).trans rfl
        have hs2 : W3.cell? ⟨wr.heap.size, 2, none⟩ = some (.int .i64 s.w) := (blk_cell hbs 2).trans rfl
        clear hb3 hT3 hF3 hO3 hp1 hbs
        go_wp2_with (fail)
        refine (rPush_calls W3 w.heap.size _ us HR3.out hsz hle _ _).mono ?_
        rintro e W4 ⟨v', b, k, us', rfl, hp, hR4, hF4⟩
        obtain ⟨e1, e2, hS4⟩ := HS.out.push HP1.out hp
        subst e1 e2
        obtain ⟨A4, c4, rfl⟩ := Kd.R_slice hR4
        have HT4 := Aside0.mk (Tasks.fr HT3.out hF4)
        have HR4 := Aside0.mk hR4
        have HS4 := Aside0.mk hS4
        have HF4 := Aside0.mk (HF3.out.trans hF4 (fun _ _ hf => hf.elim))
        have hb4 := hF4.blk HB3.out id
        have HB4 := Aside0.mk hb4
        have hb4' := blk_alloc hb4 (.cells #[.slice A4 us'.length c4] 27)
        have hc5 := (blk_cell hb4' 0).trans (show _ = some (Value.slice A2 us.length c2) from rfl)
        have hf5 := blk_frozen hb4' 0
        have hd3 : W4.heap.size ≠ W1.heap.size := fun e => by have := blk_lt hb4; omega
        have hd1 : W1.heap.size ≠ W4.heap.size := Nat.ne_of_lt (blk_lt hb4)
        have HB5 := Aside0.mk hb4'
        have HLN := Lib.hid hS4.len
        have hq3 : ((ts'.length : Int) == (us'.length : Int)) = true := by rw [HLN.out]; simp
        have hq4 : ((ts'.length : Int) != (us'.length : Int)) = false := by rw [HLN.out]; simp
        clear hp hR4 hS4 hF4 hb4 hb4'
        go_wp2_with (fail)
        go_quiet ((go_at_call 12; exact Calls.quiet_of_same ((lLen_calls _ _ _ _ _ (Tasks.drewN (Tasks.set (Tasks.alloc HT4.out _) HB5.out 0 _) _)).mono fun _ _ h => ⟨h.1, h.2.symm⟩)))
        go_wp2_with (fail)
        refine ⟨⟨i + 1, by simp, by omega, Aside0.mk (LW.next (HT4.out.alloc _) HB5.out (Kd.R_alloc HR4.out _) HS4.out (HF4.out.alloc _) HL.out _)⟩, ?_⟩
        show ss.length - ((i : Int) + 1).toNat < ss.length - (i : Int).toNat
        omega
    · go_wp2_with (fail)
      go_quiet ((go_at_call 12; exact Calls.quiet_of_same ((lLen_calls _ _ _ _ _ (HT.out.drewN _)).mono fun _ _ h => ⟨h.1, h.2.symm⟩)))
      go_wp2_with (fail)
      go_ret
      exact ⟨rfl, (HL.out.fr.drewN _).to_below⟩
end Go.Proofs.Ytpjhflimaiaokaa.Lists
