/-
Whether names are kinds: token.Kinds, walked.
-/
import Derived.Deep.RegionHeld3
import Derived.Test.YtdngobjcdajogaaMAE
import Derived.Test.YtdngobjcdajogaaMAF
import Derived.Deep.DeepCutAuto
import Derived.Deep.CutBlock
set_option linter.unusedSimpArgs false
set_option linter.unusedVariables false
namespace Go.Proofs.Ytdngobjcdajogaa.TextSet
open Go.RowKit Go.Proofs.YtdngobjcdajogaaW.PrintWords Go.Proofs.YtdngobjcdajogaaW.PrintLast Go.Proofs.YtdngobjcdajogaaW.PrintMore Go.Proofs.Ytdngobjcdajogaa.Fr Go.Proofs.Ytdngobjcdajogaa.PGramFirsts
theorem named_l (s : ByteArray) (hs : s.size ≤ maxLen) : ∀ (n i : Nat), i + n = s.size → ∃ r, token_named.l0 (n + 1) s i = some r
 | 0, i, h => by
  unfold token_named.l0; rw [if_neg (by omega)]; split <;> exact ⟨_, rfl⟩
 | n + 1, i, h => by
  obtain ⟨r, hr⟩ := named_l s hs n (i + 1) (by omega); have hm : maxLen ≤ 9223372036854775807 := by decide
  have hw : wrap64 ((i : Int) + 1) = ((i + 1 : Nat) : Int) := by simp only [wrap64]; omega
  unfold token_named.l0; rw [hw, hr]; rw [if_pos (by omega), if_pos (by omega)]; repeat' split
  all_goals exact ⟨_, rfl⟩
def named (s : ByteArray) : Bool := (token_named.f (s.size + 1) s).getD false
theorem named_some (s : ByteArray) (hs : s.size ≤ maxLen) : token_named.f (s.size + 1) s = some (named s) := by
 obtain ⟨r, hr⟩ := named_l s hs s.size 0 (by omega); have h : token_named.f (s.size + 1) s = some r := hr; unfold named; rw [h]; rfl
theorem named_calls (s : ByteArray) (hs : s.size ≤ maxLen) (w : World) : Calls Try.prog 82 #[.string s] w fun e w' => e = .returned (.bool (named s)) ∧ Drawn0 w w' :=
 token_named.calls (s.size + 1) s (named s) w (named_some s hs)
def rdS (ns : List ByteArray) (i : Nat) : ByteArray := rdOf ByteArray.empty ns i
theorem rdS_mem {ns : List ByteArray} {i : Nat} (h : i < ns.length) : rdS ns i ∈ ns := by
 simp only [rdS, rdOf, Int.toNat_natCast, List.getD_eq_getElem?_getD, List.getElem?_eq_getElem h, Option.getD_some]; exact List.getElem_mem h
theorem take_rdS {ns : List ByteArray} {i : Nat} (h : i < ns.length) : ns.take (i + 1) = ns.take i ++ [rdS ns i] := by
 rw [List.take_add_one]; simp [rdS, rdOf, List.getD_eq_getElem?_getD, h]
structure KindsOk (ns : List ByteArray) : Prop where
 two : 2 ≤ ns.length
 max : ns.length ≤ 1024
 fst : (rdS ns 0).toList = [101, 110, 100]
 snd : (rdS ns 1).toList = [101, 114, 114, 111, 114]
 all : ∀ s, s ∈ ns → named s = true
 nodup : ns.Nodup
theorem k70 {K : Prop} (h : (70 : Int) = 0 ↔ K) : ∃ r, Ending.returned (.int .i64 70) = .returned (.int .i64 r) ∧ (r = 0 ↔ K) ∧ (r = 0 ∨ r = 70) := ⟨70, rfl, h, .inr rfl⟩
set_option maxRecDepth 100000 in
theorem kinds_calls2 (w : World) (ns : List ByteArray) (A : Option Addr) (c : Nat) (hA : Kd.string.C w A ns.length ns) (hs : ∀ s, s ∈ ns → s.size ≤ maxLen) :
 Calls Try.prog 64 #[.slice A ns.length c] w fun e w' => (∃ r, e = .returned (.int .i64 r) ∧ (r = 0 ↔ KindsOk ns) ∧ (r = 0 ∨ r = 70)) ∧ Fr (fun _ => False) w w' := by
 have hm := Kd.C_max hA; go_enter Try.func64, Try.ntmps64
 have HA := Aside0.mk hA; have HS := Aside0.mk hs; clear hA hs; by_cases h2 : ns.length < 2
 · go_wp2_with (fail)
   go_ret
   exact ⟨k70 ⟨fun h => absurd h (by decide), fun h => by have := h.two; omega⟩, Fr.refl _ _⟩
 by_cases h3 : 1024 < ns.length
 · go_wp2_with (fail)
   go_ret
   exact ⟨k70 ⟨fun h => absurd h (by decide), fun h => by have := h.max; omega⟩, Fr.refl _ _⟩
 obtain ⟨ad, rfl, hx0⟩ := Kd.at_string HA.out 0 (by omega) (by omega); obtain ⟨ad', e, hx1⟩ := Kd.at_string HA.out 1 (by omega) (by omega); injection e with e
 subst e; have hx0 : w.cell? ad = some (.string (rdOf ByteArray.empty ns 0)) := by
  have e0 : ad.add 0 = ad := by unfold Addr.add; split <;> simp_all
  have : w.cell? (ad.add 0) = some (.string (rdOf ByteArray.empty ns 0)) := hx0; rwa [e0] at this
 have hx1 : w.cell? ⟨ad.block, ad.off + 1, none⟩ = some (.string (rdOf ByteArray.empty ns 1)) := by
  have e0 : ad.add 0 = ad := by unfold Addr.add; split <;> simp_all
  have : w.cell? (ad.add (0 + 1)) = some (.string (rdOf ByteArray.empty ns 1)) := hx1; rw [add_field _ _ 1 (by omega), e0] at this; exact this
 by_cases e0 : (rdOf ByteArray.empty ns 0).toList = [101, 110, 100]
 case neg =>
  have HE := Aside0.mk e0; go_wp2_with (fail)
  go_ret
  exact ⟨k70 ⟨fun h => absurd h (by decide), fun h => absurd h.fst HE.out⟩, Fr.refl _ _⟩
 have HE0 := Aside0.mk e0; by_cases e1 : (rdOf ByteArray.empty ns 1).toList = [101, 114, 114, 111, 114]
 case neg =>
  have HE := Aside0.mk e1; have hb1 : ((rdOf ByteArray.empty ns 1).toList == [101, 114, 114, 111, 114]) = false := beq_eq_false_iff_ne.2 e1; go_wp2_with (fail)
  go_ret
  exact ⟨k70 ⟨fun h => absurd h (by decide), fun h => absurd h.snd HE.out⟩, Fr.refl _ _⟩
 have HE1 := Aside0.mk e1; have hb1 : ((rdOf ByteArray.empty ns 1).toList == [101, 114, 114, 111, 114]) = true := beq_iff_eq.2 e1; have hmm := @run_makeMap Try.prog; have HM := Aside0.mk (fresh w); have HF := Aside0.mk ((Fr.refl (fun _ => False) w).alloc (.map #[] 0)); go_wp2_with (fail)
 go_loopw [29] (fun a W => ∃ i : Nat, a = .int .i64 i ∧ i ≤ ns.length ∧ Aside0 ((ns.take i).Nodup ∧ ∀ s, s ∈ ns.take i → named s = true) ∧ Aside0 (SSet W w.heap.size (ns.take i)) ∧ Aside0 (Fr (fun _ => False) w W)) (fun a _ => ns.length - (intOf a).toNat)
 case atStart => exact ⟨0, rfl, Nat.zero_le _, ⟨by simp, by simp⟩, HM, HF⟩
 case round =>
  clear HM HF hx0 hx1 e0 e1 hb1; obtain ⟨i, rfl, hi, HK, HM, HF⟩ := hrel; by_cases hlt : i < ns.length
  · obtain ⟨ad', e, hx⟩ := Kd.at_string (HF.out.C (S := fun _ => False) ByteArray.empty HA.out (fun _ _ _ => id)) (i : Int) (by omega) (by omega)
    injection e with e
    subst e; simp only [Int.toNat_natCast] at hx; have HX := Aside0.mk (show rdS ns i = rdOf ByteArray.empty ns i from rfl); have HSZ := Aside0.mk (HS.out _ (rdS_mem hlt)); have HIN := Aside0.mk (rdS_mem hlt); have HT := Aside0.mk (take_rdS hlt); generalize rdOf ByteArray.empty ns i = x at hx HX; rw [HX.out] at HSZ HIN HT; go_wp2_with (fail)
    refine (named_calls x HSZ.out _).mono ?_; rintro e W1 ⟨rfl, hd⟩; have hF1 : Fr (fun _ => False) wr W1 := Fr.drawn hd; have HM1 := Aside0.mk (HM.out.fr hF1 id); have HF1 := Aside0.mk (HF.out.trans hF1 (fun _ _ hf => hf)); have hl := look W1 _ _ HM1.out x; clear hd hF1 hx; cases hn : named x with
    | false =>
     go_wp2_with (fail)
     go_ret
     exact ⟨k70 ⟨fun h => absurd h (by decide), fun h => by have := h.all x HIN.out; rw [hn] at this; cases this⟩, HF1.out⟩
    | true =>
     cases hin : inS x (ns.take i) with
     | true =>
      rw [hin] at hl; go_wp2_with (fail)
      go_ret
      exact ⟨k70 ⟨fun h => absurd h (by decide), fun h => by
       have h1 : (ns.take (i + 1)).Nodup := (List.take_sublist _ _).nodup h.nodup; rw [HT.out] at h1; exact absurd (inS_iff.1 hin) (fun hm => (List.nodup_append.1 h1).2.2 x hm x (List.mem_singleton.2 rfl) rfl)⟩, HF1.out⟩
     | false =>
      rw [hin] at hl; obtain ⟨W2, hup, hS2, hF2⟩ := store W1 _ _ HM1.out x; rw [if_neg (by rw [hin]; decide), ← HT.out] at hS2; have HM2 := Aside0.mk hS2; have HF2 := Aside0.mk (HF1.out.trans hF2 (fun k hk e => by omega)); have HK2 := Aside0.mk (show (ns.take (i + 1)).Nodup ∧ ∀ s, s ∈ ns.take (i + 1) → named s = true by
       rw [HT.out]; refine ⟨List.nodup_append.2 ⟨HK.out.1, by simp, fun a ha b hb e => ?_⟩, fun s hs => ?_⟩
       · rw [List.mem_singleton.1 hb] at e
         rw [e] at ha; rw [inS_iff.2 ha] at hin; cases hin
       · rcases List.mem_append.1 hs with h | h
         · exact HK.out.2 s h
         · rw [List.mem_singleton.1 h]; exact hn)
      clear hS2 hF2; go_wp2_with (fail)
      exact ⟨⟨i + 1, by go_num, by omega, HK2, HM2, HF2⟩, by simp [intOf]; omega⟩
  · obtain rfl : i = ns.length := by omega
    have HOK := Aside0.mk (show KindsOk ns from ⟨by omega, by omega, HE0.out, HE1.out, by have := HK.out.2; rwa [List.take_length] at this, by have := HK.out.1; rwa [List.take_length] at this⟩); go_wp2_with (fail)
    go_ret
    exact ⟨⟨0, rfl, ⟨fun _ => HOK.out, fun _ => rfl⟩, .inl rfl⟩, HF.out⟩
theorem kinds_calls (w : World) (ns : List ByteArray) (A : Option Addr) (c : Nat) (hA : Kd.string.C w A ns.length ns) (hs : ∀ s, s ∈ ns → s.size ≤ maxLen) :
 Calls Try.prog 64 #[.slice A ns.length c] w fun e w' => (∃ r, e = .returned (.int .i64 r) ∧ (r = 0 ↔ KindsOk ns)) ∧ Fr (fun _ => False) w w' :=
 (kinds_calls2 w ns A c hA hs).mono fun _ _ ⟨⟨r, h1, h2, _⟩, h3⟩ => ⟨⟨r, h1, h2⟩, h3⟩
end Go.Proofs.Ytdngobjcdajogaa.TextSet
namespace Go.Proofs.Ytdngobjcdajogaa.Gram
open Go.RowKit Go.Proofs.YtdngobjcdajogaaW.PrintWords Go.Proofs.YtdngobjcdajogaaW.PrintLast Go.Proofs.YtdngobjcdajogaaW.PrintMore Go.Proofs.Ytdngobjcdajogaa.Fr Go.Proofs.Ytdngobjcdajogaa.PGramFirsts Go.Proofs.Ytdngobjcdajogaa.TextSet
def ownF (syms : Int) (a : S55) : Bool :=
 if (a.f0 == 0) = true then ((a.f3.length : Int) == 0) && ((a.f1 == 0) && a.f2.toList.isEmpty)
 else if (a.f0 == 1) = true then ((a.f3.length : Int) == 0) && (decide (0 ≤ a.f1) && (decide (a.f1 < syms) && a.f2.toList.isEmpty))
 else if (a.f0 == 3) = true then ((a.f3.length : Int) == 0) && ((a.f1 == 0) && decide ((a.f2.size : Int) ≤ 4096))
 else if (a.f0 == 2) = true then (a.f1 == 0) && (decide (1 ≤ (a.f2.size : Int)) && decide ((a.f2.size : Int) ≤ 32))
 else false
mutual
def partsF (syms : Int) : S55 → Int → Bool × Int
 | ⟨k, at_, name, kids⟩, n => ((kidsF syms kids (ownF syms ⟨k, at_, name, kids⟩) (n + 1)).1 && decide ((kidsF syms kids (ownF syms ⟨k, at_, name, kids⟩) (n + 1)).2 ≤ 256), (kidsF syms kids (ownF syms ⟨k, at_, name, kids⟩) (n + 1)).2)
def kidsF (syms : Int) : List S55 → Bool → Int → Bool × Int
 | [], ok, n => (ok, n)
 | k :: ks, ok, n => if ok = true ∧ n ≤ 256 then kidsF syms ks (partsF syms k n).1 (partsF syms k n).2 else kidsF syms ks false n
end
theorem partsF_eq (syms : Int) (a : S55) (n : Int) : partsF syms a n = ((kidsF syms a.f3 (ownF syms a) (n + 1)).1 && decide ((kidsF syms a.f3 (ownF syms a) (n + 1)).2 ≤ 256), (kidsF syms a.f3 (ownF syms a) (n + 1)).2) := by
 cases a
 simp only [partsF]
theorem kidsF_snoc (syms : Int) : ∀ (l : List S55) (x : S55) (ok : Bool) (n : Int), kidsF syms (l ++ [x]) ok n = if (kidsF syms l ok n).1 = true ∧ (kidsF syms l ok n).2 ≤ 256 then partsF syms x (kidsF syms l ok n).2 else (false, (kidsF syms l ok n).2)
 | [], x, ok, n => by
  have e : ∀ ok n, kidsF syms [] ok n = (ok, n) := fun ok n => by simp only [kidsF]
  rw [e]; show kidsF syms [x] ok n = if ok = true ∧ n ≤ 256 then partsF syms x n else (false, n)
  simp only [kidsF]
 | k :: l, x, ok, n => by
  simp only [List.cons_append, kidsF]; split
  · exact kidsF_snoc syms l x _ _
  · exact kidsF_snoc syms l x _ _
structure PartsW (w W : World) (a : S55) (A : Option Addr) (c b : Nat) (m : Int) : Prop where
 box : W.heap[w.heap.size]? = some (.cells #[.int .i64 a.f0, .int .i64 a.f1, .string a.f2, .slice A a.f3.length c] 55 (0, 0))
 cnt : W.heap[b]? = some (.cells #[.int .i64 m] 3 (0, 0))
 fr : Fr (fun k => k = b) w W
theorem PartsW.go {w W W1 : World} {a : S55} {A : Option Addr} {c b : Nat} {m : Int} (h : PartsW w W a A c b m) (hF : Fr (fun _ => False) W W1) : PartsW w W1 a A c b m := ⟨hF.blk h.box id, hF.blk h.cnt id, h.fr.trans hF (fun _ _ hf => hf.elim)⟩
theorem take_T55 {l : List S55} {k : Nat} (h : k < l.length) : l.take (k + 1) = l.take k ++ [rd_T55 l k] := by
 rw [List.take_add_one]; simp [rd_T55, List.getD_eq_getElem?_getD, h]
theorem size_T55 {a : S55} {k : Nat} (h : k < a.f3.length) : SizeOf.sizeOf (rd_T55 a.f3 k) < SizeOf.sizeOf a := by
 have h1 : rd_T55 a.f3 k ∈ a.f3 := by
  simp only [rd_T55, Int.toNat_natCast, List.getD_eq_getElem?_getD, List.getElem?_eq_getElem h, Option.getD_some]; exact List.getElem_mem h
 have h2 := List.sizeOf_lt_of_mem h1; have h3 : SizeOf.sizeOf a.f3 < SizeOf.sizeOf a := by
  cases a
  simp
  omega
 omega
set_option maxHeartbeats 2000000 in
set_option maxRecDepth 100000 in
theorem parts_upto (syms : Int) (N : Nat) : ∀ (a : S55), SizeOf.sizeOf a < N → ∀ (w0 w : World) (A : Option Addr) (c b : Nat) (n : Int) (hk : k55.C w0 A a.f3.length a.f3) (hB : Below w0.heap.size w0 w) (hb : w.heap[b]? = some (.cells #[.int .i64 n] 3 (0, 0))) (hlt : w0.heap.size ≤ b) (h0 : 0 ≤ n) (h1 : n ≤ 256),
 Calls Try.prog 83 #[.agg #[.int .i64 a.f0, .int .i64 a.f1, .string a.f2, .slice A a.f3.length c], .int .i64 syms, .pointer (some ⟨b, 0, none⟩)] w fun e w' =>
  e = .returned (.bool (partsF syms a n).1) ∧ w'.heap[b]? = some (.cells #[.int .i64 (partsF syms a n).2] 3 (0, 0)) ∧ 0 ≤ (partsF syms a n).2 ∧ (partsF syms a n).2 ≤ 257 ∧ Fr (fun k => k = b) w w' := by
 induction N with
 | zero => intro a h; omega
 | succ N ih =>
  intro a hN w0 w A c b n hk hB hb hlt h0 h1; have hu := Try.underlying55; have hbl := blk_lt hb; have hb1 := blk_alloc hb (.cells #[.int .i64 a.f0, .int .i64 a.f1, .string a.f2, .slice A a.f3.length c] 55); have hcb := (blk_cell hb1 0).trans (show _ = some (Value.int .i64 n) from rfl); have hfb := blk_frozen hb1 0; have HW := Aside0.mk (show PartsW w ((w.setCell ⟨b, 0, none⟩ (.int .i64 (n + 1))).alloc (.cells #[.int .i64 a.f0, .int .i64 a.f1, .string a.f2, .slice A a.f3.length c] 55)) a A c b (n + 1) from
   ⟨(by simpa using blk_new (w.setCell ⟨b, 0, none⟩ (.int .i64 (n + 1))) (.cells #[.int .i64 a.f0, .int .i64 a.f1, .string a.f2, .slice A a.f3.length c] 55)), blk_alloc (by simpa using blk_set hb 0 (.int .i64 (n + 1))) _, ((Fr.refl (fun k => k = b) w).set (g := b) (o := 0) _ (fun _ => rfl)).alloc _⟩)
  have hmx := Kd.C_max hk; have HB := Aside0.mk hB; have HK := Aside0.mk hk; have hw : wrap64 (n + 1) = n + 1 := by simp only [wrap64]; omega
  clear hb hb1 hB hk; go_enter Try.func83, Try.ntmps83
  go_upto_block 0 with fail
  go_cut [7, 8] from 11 to 84 (fun _ o wx => o = .bool (ownF syms a) ∧ wx = (w.setCell ⟨b, 0, none⟩ (.int .i64 (n + 1))).alloc (.cells #[.int .i64 a.f0, .int .i64 a.f1, .string a.f2, .slice A a.f3.length c] 55))
  case first =>
   cases hp : ((a.f3.length : Int) == 0) <;> cases ha : (a.f1 == 0) <;> go_wp2_with (fail)
   all_goals go_meet
   all_goals exact ⟨congrArg Value.bool (by simp [ownF, *] <;> omega), rfl⟩
  case rest =>
   obtain ⟨rfl, rfl⟩ := hcut; have hbx := (blk_cell HW.out.box 3).trans (show _ = some (Value.slice A a.f3.length c) from rfl); clear hcb hfb; generalize (w.setCell ⟨b, 0, none⟩ (.int .i64 (n + 1))).alloc (.cells #[.int .i64 a.f0, .int .i64 a.f1, .string a.f2, .slice A a.f3.length c] 55) = W0 at HW hbx; go_wp2_with (fail)
   go_loopw [88, 8] (fun i o W => ∃ (k : Nat) (ok : Bool) (m : Int), i = .int .i64 k ∧ o = .bool ok ∧ k ≤ a.f3.length ∧ 0 ≤ m ∧ m ≤ 257 ∧ Aside0 (kidsF syms (a.f3.take k) (ownF syms a) (n + 1) = (ok, m)) ∧ Aside0 (PartsW w W a A c b m)) (fun i _ _ => a.f3.length - (intOf i).toNat)
   case atStart => exact ⟨0, _, n + 1, rfl, rfl, Nat.zero_le _, by omega, by omega, ⟨by simp [kidsF]⟩, HW⟩
   case round =>
    clear HW hbx; obtain ⟨k, ok, m, rfl, rfl, hk, hm0, hm1, HS, HW⟩ := hrel; by_cases hlt2 : k < a.f3.length
    · obtain ⟨ad, A6, c6, rfl, x0, x1, x2, x3, hxl, hxC⟩ := at_T55 HK.out (k : Int) (by omega) (by omega)
      simp only [Int.toNat_natCast] at x0 x1 x2 x3; have hB1 : Below w0.heap.size w0 wr := HB.out.trans (HW.out.fr.below HB.out.size (fun i hi e => by omega)); have hFW : Fr (fun _ => False) w0 wr := Fr.of_below hB1; have y0 := hFW.cell x0 id; have y1 := hFW.cell x1 id; have y2 := hFW.cell x2 id; have y3 := hFW.cell x3 id; have HLT2 := Aside0.mk hlt2; have HT := Aside0.mk (take_T55 hlt2); have HZ := Aside0.mk (size_T55 hlt2); have HB1 := Aside0.mk hB1; have HXC := Aside0.mk hxC; generalize rd_T55 a.f3 k = x at x0 x1 x2 x3 y0 y1 y2 y3 HT HZ HXC hxl hxC; clear x0 x1 x2 x3 hFW hB1 hxC hxl; have HW1 := Aside0.mk (HW.out.go ((Fr.refl (fun _ => False) wr).alloc (.cells #[.int .i64 x.f0, .int .i64 x.f1, .string x.f2, .slice A6 x.f3.length c6] 55))); have hcn := (blk_cell HW1.out.cnt 0).trans (show _ = some (Value.int .i64 m) from rfl); cases ok with
      | false =>
       go_wp2_with (fail)
       exact ⟨⟨k + 1, false, m, by go_num, rfl, HLT2.out, hm0, hm1, ⟨by rw [HT.out, kidsF_snoc, HS.out]; rfl⟩, HW1⟩, by have := HLT2.out; simp [intOf]; omega⟩
      | true =>
       by_cases hm : m ≤ 256
       · go_wp2_with (fail)
         refine (ih x (by have := HZ.out; omega) w0 _ A6 c6 b m HXC.out (HB1.out.trans (((Fr.refl (fun _ => False) wr).alloc _).below (by have := HB1.out.size; omega) (fun _ _ hf => hf))) HW1.out.cnt hlt hm0 hm).mono ?_; rintro e W2 ⟨rfl, hc2, h20, h21, hF2⟩; have HW2 := Aside0.mk (show PartsW w W2 a (some ad) c b (partsF syms x m).2 from ⟨hF2.blk HW1.out.box (by omega), hc2, HW1.out.fr.trans hF2 (fun _ _ h => h)⟩); have HS2 := Aside0.mk (show kidsF syms (a.f3.take (k + 1)) (ownF syms a) (n + 1) = ((partsF syms x m).1, (partsF syms x m).2) by rw [HT.out, kidsF_snoc, HS.out, if_pos ⟨rfl, hm⟩]); generalize (partsF syms x m).1 = p at HS2 ⊢; generalize (partsF syms x m).2 = q at HS2 HW2 h20 h21 hc2; clear hc2 hF2 hcn; go_wp2_with (fail)
         exact ⟨⟨k + 1, p, q, by go_num, rfl, HLT2.out, h20, h21, HS2, HW2⟩, by have := HLT2.out; simp [intOf]; omega⟩
       · go_wp2_with (fail)
         exact ⟨⟨k + 1, false, m, by go_num, rfl, HLT2.out, hm0, hm1, ⟨by rw [HT.out, kidsF_snoc, HS.out, if_neg (fun h => hm h.2)]⟩, HW1⟩, by have := HLT2.out; simp [intOf]; omega⟩
    · obtain rfl : k = a.f3.length := by omega
      have hS : kidsF syms a.f3 (ownF syms a) (n + 1) = (ok, m) := by have := HS.out; rwa [List.take_length] at this
      have HE := Aside0.mk (partsF_eq syms a n); rw [hS] at HE; have hcn := (blk_cell HW.out.cnt 0).trans (show _ = some (Value.int .i64 m) from rfl); cases ok with
      | false =>
       go_wp2_with (fail)
       go_ret
       rw [HE.out]; exact ⟨rfl, HW.out.cnt, hm0, hm1, HW.out.fr⟩
      | true =>
       go_wp2_with (fail)
       go_ret
       rw [HE.out]; exact ⟨by simp, HW.out.cnt, hm0, hm1, HW.out.fr⟩
abbrev kI : Kd Int := Kd.int .i64
structure ProdOk (K R : Nat) (p : S57) : Prop where
 l0 : 0 ≤ p.f0
 l1 : p.f0 < R
 len : p.f1.length ≤ 64
 lev : 0 ≤ p.f2
 syms : ∀ j : Nat, j < p.f1.length → 1 ≤ rd p.f1 j ∧ rd p.f1 j < K + R
 act : (partsF p.f1.length p.f3 0).1 = true
def ProdPost (K R : Nat) (p : S57) (e : Ending) : Prop := ∃ b, e = .returned (.bool b) ∧ (b = true ↔ ProdOk K R p)
theorem ProdPost.no {K R : Nat} {p : S57} (h : ¬ ProdOk K R p) : ProdPost K R p (.returned (.bool false)) := ⟨false, rfl, ⟨fun h => absurd h (by decide), fun h2 => absurd h2 h⟩⟩
theorem parts_calls (a : S55) (syms : Int) (w0 w : World) (A : Option Addr) (c b : Nat) (n : Int) (hk : k55.C w0 A a.f3.length a.f3) (hB : Below w0.heap.size w0 w) (hb : w.heap[b]? = some (.cells #[.int .i64 n] 3 (0, 0))) (hlt : w0.heap.size ≤ b) (h0 : 0 ≤ n) (h1 : n ≤ 256) :
 Calls Try.prog 83 #[.agg #[.int .i64 a.f0, .int .i64 a.f1, .string a.f2, .slice A a.f3.length c], .int .i64 syms, .pointer (some ⟨b, 0, none⟩)] w fun e w' =>
  e = .returned (.bool (partsF syms a n).1) ∧ w'.heap[b]? = some (.cells #[.int .i64 (partsF syms a n).2] 3 (0, 0)) ∧ 0 ≤ (partsF syms a n).2 ∧ (partsF syms a n).2 ≤ 257 ∧ Fr (fun k => k = b) w w' :=
 parts_upto syms (SizeOf.sizeOf a + 1) a (Nat.lt_succ_self _) w0 w A c b n hk hB hb hlt h0 h1
set_option maxHeartbeats 2000000 in
set_option maxRecDepth 100000 in
theorem prod_calls (w : World) (A0 A1 A2 A3 : Option Addr) (c0 c1 c2 c3 K P R Q : Nat) (st : Int) (p : S57) (B1 B6 : Option Addr) (d1 d6 : Nat) (hr : kI.C w B1 p.f1.length p.f1) (hk : k55.C w B6 p.f3.f3.length p.f3.f3) (hK : K ≤ 1024) (hR : R ≤ 2048) :
 Calls Try.prog 65 #[.agg #[.slice A0 K c0, .slice A1 P c1, .slice A2 R c2, .slice A3 Q c3, .int .i64 st],
  .agg #[.int .i64 p.f0, .slice B1 p.f1.length d1, .int .i64 p.f2, .int .i64 p.f3.f0, .int .i64 p.f3.f1, .string p.f3.f2, .slice B6 p.f3.f3.length d6]] w fun e w' =>
  ProdPost K R p e ∧ Fr (fun _ => False) w w' := by
 have hu := Try.underlying26; have hu2 := Try.underlying57; have hu3 := Try.underlying55; have hm := Kd.C_max hr; have HR := Aside0.mk hr; have HK := Aside0.mk hk; have HF := Aside0.mk ((((Fr.refl (fun _ => False) w).alloc (.cells #[.slice A0 K c0, .slice A1 P c1, .slice A2 R c2, .slice A3 Q c3, .int .i64 st] 26)).alloc (.cells #[.int .i64 p.f0, .slice B1 p.f1.length d1, .int .i64 p.f2, .int .i64 p.f3.f0, .int .i64 p.f3.f1, .string p.f3.f2, .slice B6 p.f3.f3.length d6] 57))); clear hr hk; go_enter Try.func65, Try.ntmps65
 by_cases b1 : p.f0 < 0
 · go_wp2_with (fail)
   go_ret
   exact ⟨ProdPost.no (fun h => by have := h.l0; omega), HF.out⟩
 by_cases b2 : (R : Int) ≤ p.f0
 · go_wp2_with (fail)
   go_ret
   exact ⟨ProdPost.no (fun h => by have := h.l1; omega), HF.out⟩
 by_cases b3 : 64 < (p.f1.length : Int)
 · go_wp2_with (fail)
   go_ret
   exact ⟨ProdPost.no (fun h => by have := h.len; omega), HF.out⟩
 by_cases b4 : p.f2 < 0
 · go_wp2_with (fail)
   go_ret
   exact ⟨ProdPost.no (fun h => by have := h.lev; omega), HF.out⟩
 have HL := Aside0.mk (show 0 ≤ p.f0 ∧ p.f0 < R ∧ p.f1.length ≤ 64 ∧ 0 ≤ p.f2 from ⟨by omega, by omega, by omega, by omega⟩); go_wp2_with (fail)
 go_loop [33] (fun a => ∃ k : Nat, a = .int .i64 k ∧ k ≤ p.f1.length ∧ Aside0 (∀ j : Nat, j < k → 1 ≤ rd p.f1 j ∧ rd p.f1 j < K + R)) (fun a => p.f1.length - (intOf a).toNat)
 case atStart => exact ⟨0, rfl, Nat.zero_le _, ⟨fun j hj => by omega⟩⟩
 case round =>
  obtain ⟨k, rfl, hk, HS⟩ := hrel; by_cases hlt : k < p.f1.length
  · obtain ⟨ad, rfl, hx⟩ := Kd.at_int (HF.out.C (S := fun _ => False) (0 : Int) HR.out (fun _ _ _ => id)) (k : Int) (by omega) (by omega)
    simp only [Int.toNat_natCast] at hx; by_cases x1 : rd p.f1 (k : Int) < 1
    · go_wp2_with (fail)
      go_ret
      exact ⟨ProdPost.no (fun h => by have := (h.syms k hlt).1; omega), HF.out⟩
    by_cases x2 : (K : Int) + R ≤ rd p.f1 (k : Int)
    · go_wp2_with (fail)
      go_ret
      exact ⟨ProdPost.no (fun h => by have := (h.syms k hlt).2; omega), HF.out⟩
    have HX := Aside0.mk (show 1 ≤ rd p.f1 (k : Int) ∧ rd p.f1 (k : Int) < K + R from ⟨by omega, by omega⟩); have HLT := Aside0.mk hlt; go_wp2_with (fail)
    exact ⟨⟨k + 1, by go_num, HLT.out, ⟨fun j hj => by
     by_cases e : j = k
     · rw [e]; exact HX.out
     · exact HS.out j (by omega)⟩⟩, by have := HLT.out; simp [intOf]; omega⟩
  · obtain rfl : k = p.f1.length := by omega
    go_wp2_with (fail)
    have hsz : ((w.alloc (.cells #[.slice A0 K c0, .slice A1 P c1, .slice A2 R c2, .slice A3 Q c3, .int .i64 st] 26)).alloc (.cells #[.int .i64 p.f0, .slice B1 p.f1.length d1, .int .i64 p.f2, .int .i64 p.f3.f0, .int .i64 p.f3.f1, .string p.f3.f2, .slice B6 p.f3.f3.length d6] 57)).heap.size = w.heap.size + 1 + 1 := by simp only [World.size_alloc]
    have hb0 := blk_new ((w.alloc (.cells #[.slice A0 K c0, .slice A1 P c1, .slice A2 R c2, .slice A3 Q c3, .int .i64 st] 26)).alloc (.cells #[.int .i64 p.f0, .slice B1 p.f1.length d1, .int .i64 p.f2, .int .i64 p.f3.f0, .int .i64 p.f3.f1, .string p.f3.f2, .slice B6 p.f3.f3.length d6] 57)) (.cells #[.int .i64 0] 3); rw [hsz] at hb0; generalize (w.alloc (.cells #[.slice A0 K c0, .slice A1 P c1, .slice A2 R c2, .slice A3 Q c3, .int .i64 st] 26)).alloc (.cells #[.int .i64 p.f0, .slice B1 p.f1.length d1, .int .i64 p.f2, .int .i64 p.f3.f0, .int .i64 p.f3.f1, .string p.f3.f2, .slice B6 p.f3.f3.length d6] 57) = W0 at hb0 hsz HF ⊢; have HF3 := HF.out.alloc (.cells #[.int .i64 0] 3); refine (parts_calls p.f3 p.f1.length w (W0.alloc (.cells #[.int .i64 0] 3)) B6 d6 (w.heap.size + 1 + 1) 0 HK.out HF3.to_below hb0 (by omega) (by decide) (by decide)).mono ?_; rintro e W2 ⟨rfl, _, _, _, hF2⟩; have HF2 := Aside0.mk (HF3.trans hF2 (fun i hi e => by omega)); clear hF2 HF3 hb0; go_wp2_with (fail)
    go_ret
    exact ⟨⟨_, rfl, ⟨fun h => ⟨HL.out.1, HL.out.2.1, HL.out.2.2.1, HL.out.2.2.2, HS.out, h⟩, fun h => h.act⟩⟩, HF2.out⟩
structure Gr where
 kinds : List ByteArray
 precs : List S73
 rules : List ByteArray
 prods : List S57
 start : Int
structure GAt (w : World) (G : Gr) (A0 A1 A2 A3 : Option Addr) (c0 c1 c2 c3 : Nat) : Prop where
 kinds : Kd.string.C w A0 G.kinds.length G.kinds
 precs : k73.C w A1 G.precs.length G.precs
 rules : Kd.string.C w A2 G.rules.length G.rules
 prods : k57.C w A3 G.prods.length G.prods
 l0 : G.kinds.length ≤ c0
 l1 : G.precs.length ≤ c1
 l2 : G.rules.length ≤ c2
 l3 : G.prods.length ≤ c3
 ok : ∀ s, s ∈ G.kinds → s.size ≤ maxLen
 ok2 : ∀ s, s ∈ G.rules → s.size ≤ maxLen
theorem GAt.go {w w1 : World} {G : Gr} {A0 A1 A2 A3 : Option Addr} {c0 c1 c2 c3 : Nat} (h : GAt w G A0 A1 A2 A3 c0 c1 c2 c3) (hF : Fr (fun _ => False) w w1) : GAt w1 G A0 A1 A2 A3 c0 c1 c2 c3 :=
 ⟨Kd.C_below h.kinds hF.to_below, Kd.C_below h.precs hF.to_below, Kd.C_below h.rules hF.to_below, Kd.C_below h.prods hF.to_below, h.l0, h.l1, h.l2, h.l3, h.ok, h.ok2⟩
def precF (i : Nat) (p : S73) : Bool := ((p.f0 == 0) && (p.f1 == 0)) || (decide (1 ≤ p.f0) && (decide (1 ≤ p.f1) && (decide (p.f1 ≤ 3) && decide ((2 : Int) ≤ i))))
def precsF (ok : Bool) (l : List S73) : Nat → Bool
 | 0 => ok
 | k + 1 => precsF ok l k && precF k (rd_T73 l k)
def nameF (l : List ByteArray) (k : Nat) : Bool := decide (1 ≤ ((rdS l k).size : Int)) && (decide (((rdS l k).size : Int) ≤ 4096) && !inS (rdS l k) (l.take k))
def namesF (ok : Bool) (l : List ByteArray) : Nat → Bool
 | 0 => ok
 | k + 1 => namesF ok l k && nameF l k
def startF (ok : Bool) (G : Gr) : Bool := ok && (decide (1 ≤ (G.rules.length : Int)) && (decide ((G.rules.length : Int) ≤ 2048) && (decide (0 ≤ G.start) && (decide (G.start < G.rules.length) && decide ((G.prods.length : Int) ≤ 4096)))))
def baseF (kb : Bool) (G : Gr) : Bool := namesF (startF (precsF (kb && ((G.precs.length : Int) == G.kinds.length)) G.precs G.precs.length) G) G.rules G.rules.length
theorem precsF_true {ok : Bool} {l : List S73} : ∀ {k : Nat}, precsF ok l k = true → ok = true
 | 0, h => h
 | k + 1, h => precsF_true (k := k) (by simp only [precsF, Bool.and_eq_true] at h; exact h.1)
theorem namesF_true {ok : Bool} {l : List ByteArray} : ∀ {k : Nat}, namesF ok l k = true → ok = true
 | 0, h => h
 | k + 1, h => namesF_true (k := k) (by simp only [namesF, Bool.and_eq_true] at h; exact h.1)
theorem startF_true {ok : Bool} {G : Gr} (h : startF ok G = true) : ok = true ∧ 1 ≤ G.rules.length ∧ G.rules.length ≤ 2048 ∧ 0 ≤ G.start ∧ G.start < G.rules.length ∧ G.prods.length ≤ 4096 := by
 simp only [startF, Bool.and_eq_true, decide_eq_true_eq] at h; refine ⟨h.1, ?_, ?_, ?_, ?_, ?_⟩ <;> omega
theorem base_true {kb : Bool} {G : Gr} (h : baseF kb G = true) : kb = true ∧ 1 ≤ G.rules.length ∧ G.rules.length ≤ 2048 ∧ 0 ≤ G.start ∧ G.start < G.rules.length ∧ G.prods.length ≤ 4096 := by
 obtain ⟨h1, h2⟩ := startF_true (namesF_true h); have h3 := precsF_true h1; rw [Bool.and_eq_true] at h3; exact ⟨h3.1, h2⟩
structure CheckOk (G : Gr) : Prop where
 kinds : KindsOk G.kinds
 base : baseF true G = true
 prods : ∀ j : Nat, j < G.prods.length → ProdOk G.kinds.length G.rules.length (rd_T57 G.prods j)
def CheckPost (G : Gr) (e : Ending) : Prop := ∃ r, e = .returned (.int .i64 r) ∧ (r = 0 ↔ CheckOk G) ∧ (r = 0 ∨ r = 130)
theorem inS_congr {s : ByteArray} {a b : List ByteArray} (h : ∀ s, s ∈ a ↔ s ∈ b) : inS s a = inS s b := by
 cases ha : inS s a with
 | true => exact (inS_iff.2 ((h s).1 (inS_iff.1 ha))).symm
 | false => cases hb : inS s b with
  | false => rfl
  | true => rw [inS_iff.2 ((h s).2 (inS_iff.1 hb))] at ha; cases ha
def NSet (w : World) (m : Nat) (l : List ByteArray) : Prop := ∃ ks, SSet w m ks ∧ ∀ s, s ∈ ks ↔ s ∈ l
theorem NSet.fr {w w1 : World} {m : Nat} {l : List ByteArray} {S : Nat → Prop} (h : NSet w m l) (hF : Fr S w w1) (hm : ¬ S m) : NSet w1 m l := by
 obtain ⟨ks, hs, hm2⟩ := h; exact ⟨ks, hs.fr hF hm, hm2⟩
theorem NSet.look {w : World} {m : Nat} {l : List ByteArray} (h : NSet w m l) (s : ByteArray) : (Instr.lookup 98 (.map (some m)) (.string s) false).run Try.prog w = .ok (.bool (inS s l)) w := by
 obtain ⟨ks, hs, hm⟩ := h; rw [← inS_congr hm]; exact TextSet.look w m ks hs s
theorem NSet.store {w : World} {m : Nat} {l : List ByteArray} (h : NSet w m l) (s : ByteArray) :
 ∃ w', (Instr.mapUpdate 98 (.map (some m)) (.string s) (.bool true)).run Try.prog w = .ok () w' ∧ NSet w' m (l ++ [s]) ∧ Fr (fun i => i = m) w w' := by
 obtain ⟨ks, hs, hm⟩ := h; obtain ⟨w', h1, h2, h3⟩ := TextSet.store w m ks hs s; refine ⟨w', h1, ⟨_, h2, fun t => ?_⟩, h3⟩; by_cases hi : inS s ks = true
 · rw [if_pos hi, List.mem_append, List.mem_singleton]
   exact ⟨fun ht => .inl ((hm t).1 ht), fun ht => ht.elim (hm t).2 (fun e => e ▸ inS_iff.1 hi)⟩
 · rw [if_neg hi, List.mem_append, List.mem_append, hm t]
def OkP (G : Gr) (base : Bool) (i : Nat) (ok : Bool) : Prop := ok = true ↔ base = true ∧ ∀ j : Nat, j < i → ProdOk G.kinds.length G.rules.length (rd_T57 G.prods j)
theorem OkP.skip {G : Gr} {base : Bool} {i : Nat} (h : OkP G base i false) : OkP G base (i + 1) false :=
 ⟨fun h => absurd h (by decide), fun ⟨h1, h2⟩ => h.2 ⟨h1, fun j hj => h2 j (by omega)⟩⟩
theorem OkP.next {G : Gr} {base : Bool} {i : Nat} (h : OkP G base i true) {b : Bool} (hb : b = true ↔ ProdOk G.kinds.length G.rules.length (rd_T57 G.prods i)) : OkP G base (i + 1) b :=
 ⟨fun e => ⟨(h.1 rfl).1, fun j hj => by
  by_cases ej : j = i
  · rw [ej]; exact hb.1 e
  · exact (h.1 rfl).2 j (by omega)⟩, fun ⟨_, h2⟩ => hb.2 (h2 i (Nat.lt_succ_self i))⟩
structure ChkW (w W : World) (G : Gr) (A0 A1 A2 A3 : Option Addr) (c0 c1 c2 c3 : Nat) : Prop where
 box : W.heap[w.heap.size]? = some (.cells #[.slice A0 G.kinds.length c0, .slice A1 G.precs.length c1, .slice A2 G.rules.length c2, .slice A3 G.prods.length c3, .int .i64 G.start] 26 (0, 0))
 fr : Fr (fun _ => False) w W
theorem ChkW.go {w W W1 : World} {G : Gr} {A0 A1 A2 A3 : Option Addr} {c0 c1 c2 c3 : Nat} (h : ChkW w W G A0 A1 A2 A3 c0 c1 c2 c3) (hF : Fr (fun _ => False) W W1) : ChkW w W1 G A0 A1 A2 A3 c0 c1 c2 c3 := ⟨hF.blk h.box id, h.fr.trans hF (fun _ _ hf => hf)⟩
theorem ChkW.cells {w W : World} {G : Gr} {A0 A1 A2 A3 : Option Addr} {c0 c1 c2 c3 : Nat} (h : ChkW w W G A0 A1 A2 A3 c0 c1 c2 c3) :
 W.cell? ⟨w.heap.size, 0, none⟩ = some (.slice A0 G.kinds.length c0) ∧ W.cell? ⟨w.heap.size, 1, none⟩ = some (.slice A1 G.precs.length c1) ∧ W.cell? ⟨w.heap.size, 2, none⟩ = some (.slice A2 G.rules.length c2) ∧ W.cell? ⟨w.heap.size, 3, none⟩ = some (.slice A3 G.prods.length c3) ∧ W.cell? ⟨w.heap.size, 4, none⟩ = some (.int .i64 G.start) :=
 ⟨(blk_cell h.box 0).trans rfl, (blk_cell h.box 1).trans rfl, (blk_cell h.box 2).trans rfl, (blk_cell h.box 3).trans rfl, (blk_cell h.box 4).trans rfl⟩
set_option maxHeartbeats 4000000 in
set_option maxRecDepth 100000 in
theorem check_calls (w : World) (G : Gr) (A0 A1 A2 A3 : Option Addr) (c0 c1 c2 c3 : Nat) (h : GAt w G A0 A1 A2 A3 c0 c1 c2 c3) :
 Calls Try.prog 26 #[.agg #[.slice A0 G.kinds.length c0, .slice A1 G.precs.length c1, .slice A2 G.rules.length c2, .slice A3 G.prods.length c3, .int .i64 G.start]] w fun e w' => CheckPost G e ∧ Fr (fun _ => False) w w' := by
 have hu := Try.underlying26; have hu2 := Try.underlying57; have hu3 := Try.underlying73; have hm0 := Kd.C_max h.kinds; have hm1 := Kd.C_max h.precs; have hm2 := Kd.C_max h.rules; have hm3 := Kd.C_max h.prods; have HG := Aside0.mk h; have HW := Aside0.mk (show ChkW w (w.alloc (.cells #[.slice A0 G.kinds.length c0, .slice A1 G.precs.length c1, .slice A2 G.rules.length c2, .slice A3 G.prods.length c3, .int .i64 G.start] 26)) G A0 A1 A2 A3 c0 c1 c2 c3 from ⟨blk_new w _, (Fr.refl _ w).alloc _⟩); clear h; go_enter Try.func26, Try.ntmps26
 go_upto_region 1 with fail
 generalize w.alloc (.cells #[.slice A0 G.kinds.length c0, .slice A1 G.precs.length c1, .slice A2 G.rules.length c2, .slice A3 G.prods.length c3, .int .i64 G.start] 26) = W0 at HW ⊢; obtain ⟨e0, e1, e2, e3, e4⟩ := HW.out.cells; go_cut [3] from 13 to 25 (fun o wx => ∃ kb : Bool, o = .bool (kb && ((G.precs.length : Int) == G.kinds.length)) ∧ Aside0 (kb = true ↔ KindsOk G.kinds) ∧ Aside0 (ChkW w wx G A0 A1 A2 A3 c0 c1 c2 c3))
 case first =>
  have HG0 := Aside0.mk (HG.out.go HW.out.fr); go_wp2_with (fail)
  refine (kinds_calls W0 G.kinds A0 c0 HG0.out.kinds HG0.out.ok).mono ?_; rintro e W1 ⟨⟨r, rfl, hr⟩, hF⟩; have HR := Aside0.mk hr; have HW1 := Aside0.mk (HW.out.go hF); obtain ⟨f0, f1, f2, f3, f4⟩ := HW1.out.cells; clear hF hr; cases hk : (r == 0) with
  | true =>
   go_wp2_with (fail)
   go_meet
   exact ⟨true, rfl, ⟨⟨fun _ => HR.out.1 (beq_iff_eq.1 hk), fun _ => rfl⟩⟩, HW1⟩
  | false =>
   go_wp2_with (fail)
   go_meet
   exact ⟨false, rfl, ⟨⟨fun h => absurd h (by decide), fun h => by rw [HR.out.2 h] at hk; cases hk⟩⟩, HW1⟩
 case rest =>
  clear HW e0 e1 e2 e3 e4; obtain ⟨kb, rfl, HK, HW⟩ := hcut; obtain ⟨e0, e1, e2, e3, e4⟩ := HW.out.cells; go_wp2_with (fail)
  go_loopw [29, 3] (fun a o W => ∃ (i : Nat) (ok : Bool), a = .int .i64 i ∧ o = .bool ok ∧ i ≤ G.precs.length ∧ Aside0 (ok = precsF (kb && ((G.precs.length : Int) == G.kinds.length)) G.precs i) ∧ Aside0 (ChkW w W G A0 A1 A2 A3 c0 c1 c2 c3)) (fun a _ _ => G.precs.length - (intOf a).toNat)
  case atStart => exact ⟨0, _, rfl, rfl, Nat.zero_le _, ⟨rfl⟩, HW⟩
  case round =>
   clear HW e0 e1 e2 e3 e4; obtain ⟨i, ok, rfl, rfl, hi, HO, HW⟩ := hrel; by_cases hlt : i < G.precs.length
   · obtain ⟨ad, rfl, hx0, hx1⟩ := at_T73 HG.out.precs (i : Int) (by omega) (by omega)
     simp only [Int.toNat_natCast] at hx0 hx1; have y0 := HW.out.fr.cell hx0 id; have y1 := HW.out.fr.cell hx1 id; have HLT := Aside0.mk hlt; have HOS := Aside0.mk (show precsF (kb && ((G.precs.length : Int) == G.kinds.length)) G.precs (i + 1) = (ok && precF i (rd_T73 G.precs i)) by rw [HO.out]; rfl); generalize rd_T73 G.precs i = x at hx0 hx1 y0 y1 HOS; have HW1 := Aside0.mk (HW.out.go ((Fr.refl (fun _ => False) wr).alloc (.cells #[.int .i64 x.f0, .int .i64 x.f1] 73))); clear hx0 hx1; cases z0 : (x.f0 == 0) <;> cases z1 : (x.f1 == 0) <;> cases ok <;> go_wp2_with (fail)
     all_goals exact ⟨⟨i + 1, _, by go_num, rfl, HLT.out, ⟨by rw [HOS.out]; simp [precF, *] <;> omega⟩, HW1⟩, by have := HLT.out; simp [intOf]; omega⟩
   · obtain rfl : i = G.precs.length := by omega
     obtain ⟨e0, e1, e2, e3, e4⟩ := HW.out.cells; go_upto_region 9 with fail
     go_cut [3] from 62 to 93 (fun o wx => o = .bool (startF ok G) ∧ wx = wr)
     case first =>
      cases ok <;> go_wp2_with (fail)
      all_goals go_meet
      all_goals exact ⟨congrArg Value.bool (by simp [startF, *] <;> omega), rfl⟩
     case rest =>
      obtain ⟨rfl, rfl⟩ := hcut; have HO2 := Aside0.mk (show startF ok G = startF (precsF (kb && ((G.precs.length : Int) == G.kinds.length)) G.precs G.precs.length) G by rw [HO.out]); have hmm := @run_makeMap Try.prog; have HN := Aside0.mk (show NSet (wc.alloc (.map #[] 0)) wc.heap.size (G.rules.take 0) from ⟨[], fresh wc, fun s => by simp⟩); have HW2 := Aside0.mk (HW.out.go ((Fr.refl (fun _ => False) wc).alloc (.map #[] 0))); have hlt0 := blk_lt HW.out.box; generalize startF ok G = ok2 at HO2 ⊢; clear HW HO; go_wp2_with (fail)
      go_loopw [98, 3] (fun a o W => ∃ (i : Nat) (ok : Bool), a = .int .i64 i ∧ o = .bool ok ∧ i ≤ G.rules.length ∧ Aside0 (ok = namesF ok2 G.rules i) ∧ Aside0 (NSet W wc.heap.size (G.rules.take i)) ∧ Aside0 (ChkW w W G A0 A1 A2 A3 c0 c1 c2 c3)) (fun a _ _ => G.rules.length - (intOf a).toNat)
      case atStart => exact ⟨0, _, rfl, rfl, Nat.zero_le _, ⟨rfl⟩, HN, HW2⟩
      case round =>
       clear HW2 HN e0 e1 e2 e3 e4; obtain ⟨i, ok, rfl, rfl, hi, HO, HN, HW⟩ := hrel; by_cases hlt : i < G.rules.length
       · obtain ⟨ad, rfl, hx⟩ := Kd.at_string HG.out.rules (i : Int) (by omega) (by omega)
         simp only [Int.toNat_natCast] at hx; have y := HW.out.fr.cell hx id; have HLT := Aside0.mk hlt; have HOS := Aside0.mk (show namesF ok2 G.rules (i + 1) = (ok && nameF G.rules i) by rw [HO.out]; rfl); have hT := take_rdS hlt; have HX := show rdS G.rules i = rdOf ByteArray.empty G.rules i from rfl; unfold nameF at HOS; rw [HX] at HOS hT; generalize rdOf ByteArray.empty G.rules i = x at hx y HOS hT; have hl := HN.out.look x; obtain ⟨W2, hup, hN2, hF2⟩ := HN.out.store x; rw [← hT] at hN2; have HN2 := Aside0.mk hN2; have HW2 := Aside0.mk (show ChkW w W2 G A0 A1 (some ad) A3 c0 c1 c2 c3 from ⟨hF2.blk HW.out.box (by omega), HW.out.fr.trans hF2 (fun k hk e => by omega)⟩); generalize inS x (G.rules.take i) = inx at hl HOS; clear hx HX hT hN2 hF2; cases ok <;> cases inx <;> go_wp2_with (fail)
         all_goals exact ⟨⟨i + 1, _, by go_num, rfl, HLT.out, ⟨by rw [HOS.out]; simp [*] <;> omega⟩, HN2, HW2⟩, by have := HLT.out; simp [intOf]; omega⟩
       · obtain rfl : i = G.rules.length := by omega
         obtain ⟨e0, e1, e2, e3, e4⟩ := HW.out.cells; have HBS := Aside0.mk (show ok = baseF kb G by rw [HO.out, HO2.out]; rfl); have HP := Aside0.mk (show OkP G ok 0 ok from ⟨fun h => ⟨h, fun j hj => by omega⟩, fun h => h.1⟩); clear HO HO2 HN; go_wp2_with (fail)
         go_loopw [125, 3] (fun a o W => ∃ (i : Nat) (ok2 : Bool), a = .int .i64 i ∧ o = .bool ok2 ∧ i ≤ G.prods.length ∧ Aside0 (OkP G ok i ok2) ∧ Aside0 (ChkW w W G A0 A1 A2 A3 c0 c1 c2 c3)) (fun a _ _ => G.prods.length - (intOf a).toNat)
         case atStart => exact ⟨0, _, rfl, rfl, Nat.zero_le _, HP, HW⟩
         case round =>
          clear HW HP e0 e1 e2 e3 e4; obtain ⟨i, ok2, rfl, rfl, hi, HP, HW⟩ := hrel; by_cases hlt : i < G.prods.length
          · obtain ⟨ad, B1, d1, B6, d6, rfl, x0, x1, x2, x3, x4, x5, x6, hl1, hC1, hl6, hC6⟩ := at_T57 HG.out.prods (i : Int) (by omega) (by omega)
            simp only [Int.toNat_natCast] at x0 x1 x2 x3 x4 x5 x6; have y0 := HW.out.fr.cell x0 id; have y1 := HW.out.fr.cell x1 id; have y2 := HW.out.fr.cell x2 id; have y3 := HW.out.fr.cell x3 id; have y4 := HW.out.fr.cell x4 id; have y5 := HW.out.fr.cell x5 id; have y6 := HW.out.fr.cell x6 id; have HLT := Aside0.mk hlt; have HX := Aside0.mk (show rd_T57 G.prods i = rd_T57 G.prods (i : Int) from rfl); have HC1 := Aside0.mk hC1; have HC6 := Aside0.mk hC6; have hq : ∀ {b : Bool}, (b = true ↔ ProdOk G.kinds.length G.rules.length (rd_T57 G.prods i)) = (b = true ↔ ProdOk G.kinds.length G.rules.length (rd_T57 G.prods (i : Int))) := rfl; have HNX := Aside0.mk (fun (h : OkP G ok i true) (b : Bool) hb => h.next (b := b) hb); generalize rd_T57 G.prods (i : Int) = x at x0 x1 x2 x3 x4 x5 x6 y0 y1 y2 y3 y4 y5 y6 HX HC1 HC6 HNX hC1 hC6 hl1 hl6 hq; have HW1 := Aside0.mk (HW.out.go ((Fr.refl (fun _ => False) wr).alloc (.cells #[.int .i64 x.f0, .slice B1 x.f1.length d1, .int .i64 x.f2, .int .i64 x.f3.f0, .int .i64 x.f3.f1, .string x.f3.f2, .slice B6 x.f3.f3.length d6] 57))); obtain ⟨e0, e1, e2, e3, e4⟩ := HW1.out.cells; clear x0 x1 x2 x3 x4 x5 x6 hC1 hC6 hl1 hl6 hq; cases ok2 with
            | false =>
             go_wp2_with (fail)
             exact ⟨⟨i + 1, false, by go_num, rfl, HLT.out, ⟨HP.out.skip⟩, HW1⟩, by have := HLT.out; simp [intOf]; omega⟩
            | true =>
             have HKR := Aside0.mk (show G.kinds.length ≤ 1024 ∧ G.rules.length ≤ 2048 by
              have h1 := (HP.out.1 rfl).1; rw [HBS.out] at h1; exact ⟨(HK.out.1 (base_true h1).1).max, (base_true h1).2.2.1⟩)
             go_wp2_with (fail)
             refine (prod_calls _ A0 A1 A2 (some ad) c0 c1 c2 c3 G.kinds.length G.precs.length G.rules.length G.prods.length G.start x B1 B6 d1 d6 (Kd.C_below HC1.out HW1.out.fr.to_below) (Kd.C_below HC6.out HW1.out.fr.to_below) HKR.out.1 HKR.out.2).mono ?_; rintro e W2 ⟨⟨b, rfl, hb⟩, hF2⟩; have HP2 := Aside0.mk (HNX.out HP.out b hb); have HW2 := Aside0.mk (HW1.out.go hF2); clear hb hF2; go_wp2_with (fail)
             exact ⟨⟨i + 1, b, by go_num, rfl, HLT.out, HP2, HW2⟩, by have := HLT.out; simp [intOf]; omega⟩
          · obtain rfl : i = G.prods.length := by omega
            cases ok2 with
            | true =>
             have HE := Aside0.mk (show CheckPost G (.returned (.int .i64 0)) from ⟨0, rfl, ⟨fun _ => by
              obtain ⟨h1, h2⟩ := HP.out.1 rfl; have h3 : baseF kb G = true := by rw [← HBS.out]; exact h1
              have hkb := (base_true h3).1; have h4 : baseF true G = true := by rw [hkb] at h3; exact h3
              exact ⟨HK.out.1 hkb, h4, h2⟩, fun _ => rfl⟩, .inl rfl⟩)
             go_wp2_with (fail)
             go_ret
             exact ⟨HE.out, HW.out.fr⟩
            | false =>
             have HE := Aside0.mk (show CheckPost G (.returned (.int .i64 130)) from ⟨130, rfl, ⟨fun h => absurd h (by decide), fun h => by
              have hkb := HK.out.2 h.kinds; have h5 : baseF kb G = true := by rw [hkb]; exact h.base
              have h1 : ok = true := by rw [HBS.out]; exact h5
              exact absurd (HP.out.2 ⟨h1, h.prods⟩) (by decide)⟩, .inr rfl⟩)
             go_wp2_with (fail)
             go_ret
             exact ⟨HE.out, HW.out.fr⟩
end Go.Proofs.Ytdngobjcdajogaa.Gram
