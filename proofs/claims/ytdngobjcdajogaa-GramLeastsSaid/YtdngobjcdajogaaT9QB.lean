/-
Whether an action and a production may be: gram.parts and gram.prod, walked.
-/
import Derived.Deep.DeepCutAuto
import Derived.Deep.CutBlock
import Derived.Test.YtdngobjcdajogaaT9QA
namespace Go.Proofs.Ytdngobjcdajogaa.Gram
open Go.RowKit Go.Proofs.YtdngobjcdajogaaW.PrintWords Go.Proofs.YtdngobjcdajogaaW.PrintLast Go.Proofs.YtdngobjcdajogaaW.PrintMore Go.Proofs.Ytdngobjcdajogaa.Fr Go.Proofs.Ytdngobjcdajogaa.PGramFirsts Go.Proofs.Ytdngobjcdajogaa.TextSet
/-- Whether an action's own part may be. -/
def ownF (syms : Int) (a : S55) : Bool :=
  if (a.f0 == 0) = true then ((a.f3.length : Int) == 0) && ((a.f1 == 0) && a.f2.toList.isEmpty)
  else if (a.f0 == 1) = true then ((a.f3.length : Int) == 0) && (decide (0 ≤ a.f1) && (decide (a.f1 < syms) && a.f2.toList.isEmpty))
  else if (a.f0 == 3) = true then ((a.f3.length : Int) == 0) && ((a.f1 == 0) && decide ((a.f2.size : Int) ≤ 4096))
  else if (a.f0 == 2) = true then (a.f1 == 0) && (decide (1 ≤ (a.f2.size : Int)) && decide ((a.f2.size : Int) ≤ 32))
  else false
mutual
/-- Whether an action may be, and the count behind it. -/
def partsF (syms : Int) : S55 → Int → Bool × Int
  | ⟨k, at_, name, kids⟩, n => ((kidsF syms kids (ownF syms ⟨k, at_, name, kids⟩) (n + 1)).1 && decide ((kidsF syms kids (ownF syms ⟨k, at_, name, kids⟩) (n + 1)).2 ≤ 256), (kidsF syms kids (ownF syms ⟨k, at_, name, kids⟩) (n + 1)).2)
def kidsF (syms : Int) : List S55 → Bool → Int → Bool × Int
  | [], ok, n => (ok, n)
  | k :: ks, ok, n => if ok = true ∧ n ≤ 256 then kidsF syms ks (partsF syms k n).1 (partsF syms k n).2 else kidsF syms ks false n
end
theorem partsF_eq (syms : Int) (a : S55) (n : Int) : partsF syms a n = ((kidsF syms a.f3 (ownF syms a) (n + 1)).1 && decide ((kidsF syms a.f3 (ownF syms a) (n + 1)).2 ≤ 256), (kidsF syms a.f3 (ownF syms a) (n + 1)).2) := by
  cases a
  simp only [partsF]
theorem kidsF_snoc (syms : Int) : ∀ (l : List S55) (x : S55) (ok : Bool) (n : Int), kidsF syms (l ++ [x]) ok n = if (kidsF syms l ok n).1 = true ∧ (kidsF syms l ok n).2 ≤ 256 then partsF syms x (kidsF syms l ok n).2 else (false, (kidsF syms l ok n).2)
  | [], x, ok, n => by
    have e : ∀ ok n, kidsF syms [] ok n = (ok, n) := fun ok n => by simp only [kidsF]
    rw [e]
    show kidsF syms [x] ok n = if ok = true ∧ n ≤ 256 then partsF syms x n else (false, n)
    simp only [kidsF]
  | k :: l, x, ok, n => by
    simp only [List.cons_append, kidsF]
    split
    · exact kidsF_snoc syms l x _ _
    · exact kidsF_snoc syms l x _ _
structure PartsW (w W : World) (a : S55) (A : Option Addr) (c b : Nat) (m : Int) : Prop where
  box : W.heap[w.heap.size]? = some (.cells #[.int .i64 a.f0, .int .i64 a.f1, .string a.f2, .slice A a.f3.length c] 55 (0, 0))
  cnt : W.heap[b]? = some (.cells #[.int .i64 m] 3 (0, 0))
  fr : Fr (fun k => k = b) w W
theorem PartsW.go {w W W1 : World} {a : S55} {A : Option Addr} {c b : Nat} {m : Int} (h : PartsW w W a A c b m) (hF : Fr (fun _ => False) W W1) : PartsW w W1 a A c b m := ⟨hF.blk h.box id, hF.blk h.cnt id, h.fr.trans hF (fun _ _ hf => hf.elim)⟩
theorem take_T55 {l : List S55} {k : Nat} (h : k < l.length) : l.take (k + 1) = l.take k ++ [rd_T55 l k] := by
  rw [List.take_add_one]
  simp [rd_T55, List.getD_eq_getElem?_getD, h]
theorem size_T55 {a : S55} {k : Nat} (h : k < a.f3.length) : SizeOf.sizeOf (rd_T55 a.f3 k) < SizeOf.sizeOf a := by
  have h1 : rd_T55 a.f3 k ∈ a.f3 := by
    simp only [rd_T55, Int.toNat_natCast, List.getD_eq_getElem?_getD, List.getElem?_eq_getElem h, Option.getD_some]
    exact List.getElem_mem h
  have h2 := List.sizeOf_lt_of_mem h1
  have h3 : SizeOf.sizeOf a.f3 < SizeOf.sizeOf a := by
    cases a
    simp
    omega
  omega
set_option maxHeartbeats 2000000 in
set_option maxRecDepth 100000 in
theorem parts_upto (syms : Int) (N : Nat) : ∀ (a : S55), SizeOf.sizeOf a < N → ∀ (w0 w : World) (A : Option Addr) (c b : Nat) (n : Int) (hk : k55.C w0 A a.f3.length a.f3) (hB : Below w0.heap.size w0 w) (hb : w.heap[b]? = some (.cells #[.int .i64 n] 3 (0, 0))) (hlt : w0.heap.size ≤ b) (h0 : 0 ≤ n) (h1 : n ≤ 256),
    Calls Try.prog 83 #[.agg #[.int .i64 a.f0, .int .i64 a.f1, .string a.f2, .slice A a.f3.length c], .int .i64 syms, .pointer (some ⟨b, 0, none⟩)] w fun e w' =>
      e = .returned (.bool (partsF syms a n).1) ∧ w'.heap[b]? = some (.cells #[.int .i64 (partsF syms a n).2] 3 (0, 0)) ∧ 0 ≤ (partsF syms a n).2 ∧ (partsF syms a n).2 ≤ 257 ∧ Fr (fun k => k = b) w w' := by
  induction N with
  | zero => intro a h; omega
  | succ N ih =>
    intro a hN w0 w A c b n hk hB hb hlt h0 h1
    have hu := Try.underlying55
    have hbl := blk_lt hb
    have hb1 := blk_alloc hb (.cells #[.int .i64 a.f0, .int .i64 a.f1, .string a.f2, .slice A a.f3.length c] 55)
    have hcb := (blk_cell hb1 0).trans (show _ = some (Value.int .i64 n) from rfl)
    have hfb := blk_frozen hb1 0
    have HW := Aside0.mk (show PartsW w ((w.setCell ⟨b, 0, none⟩ (.int .i64 (n + 1))).alloc (.cells #[.int .i64 a.f0, .int .i64 a.f1, .string a.f2, .slice A a.f3.length c] 55)) a A c b (n + 1) from
      ⟨(by simpa using blk_new (w.setCell ⟨b, 0, none⟩ (.int .i64 (n + 1))) (.cells #[.int .i64 a.f0, .int .i64 a.f1, .string a.f2, .slice A a.f3.length c] 55)), blk_alloc (by simpa using blk_set hb 0 (.int .i64 (n + 1))) _, ((Fr.refl (fun k => k = b) w).set (g := b) (o := 0) _ (fun _ => rfl)).alloc _⟩)
    have hmx := Kd.C_max hk
    have HB := Aside0.mk hB
    have HK := Aside0.mk hk
    have hw : wrap64 (n + 1) = n + 1 := by simp only [wrap64]; omega
    clear hb hb1 hB hk
    go_enter Try.func83, Try.ntmps83
    go_upto_block 0 with fail
    go_cut [7, 8] from 11 to 84 (fun _ o wx => o = .bool (ownF syms a) ∧ wx = (w.setCell ⟨b, 0, none⟩ (.int .i64 (n + 1))).alloc (.cells #[.int .i64 a.f0, .int .i64 a.f1, .string a.f2, .slice A a.f3.length c] 55))
    case first =>
      cases hp : ((a.f3.length : Int) == 0) <;> cases ha : (a.f1 == 0) <;> go_wp2_with (fail)
      all_goals go_meet
      all_goals exact ⟨congrArg Value.bool (by simp [ownF, *] <;> omega), rfl⟩
    case rest =>
      obtain ⟨rfl, rfl⟩ := hcut
      have hbx := (blk_cell HW.out.box 3).trans (show _ = some (Value.slice A a.f3.length c) from rfl)
      clear hcb hfb
      generalize (w.setCell ⟨b, 0, none⟩ (.int .i64 (n + 1))).alloc (.cells #[.int .i64 a.f0, .int .i64 a.f1, .string a.f2, .slice A a.f3.length c] 55) = W0 at HW hbx
      go_wp2_with (fail)
      go_loopw [88, 8] (fun i o W => ∃ (k : Nat) (ok : Bool) (m : Int), i = .int .i64 k ∧ o = .bool ok ∧ k ≤ a.f3.length ∧ 0 ≤ m ∧ m ≤ 257 ∧ Aside0 (kidsF syms (a.f3.take k) (ownF syms a) (n + 1) = (ok, m)) ∧ Aside0 (PartsW w W a A c b m)) (fun i _ _ => a.f3.length - (intOf i).toNat)
      case atStart => exact ⟨0, _, n + 1, rfl, rfl, Nat.zero_le _, by omega, by omega, ⟨by simp [kidsF]⟩, HW⟩
      case round =>
        clear HW hbx
        obtain ⟨k, ok, m, rfl, rfl, hk, hm0, hm1, HS, HW⟩ := hrel
        by_cases hlt2 : k < a.f3.length
        · obtain ⟨ad, A6, c6, rfl, x0, x1, x2, x3, hxl, hxC⟩ := at_T55 HK.out (k : Int) (by omega) (by omega)
          simp only [Int.toNat_natCast] at x0 x1 x2 x3
          have hB1 : Below w0.heap.size w0 wr := HB.out.trans (HW.out.fr.below HB.out.size (fun i hi e => by omega))
          have hFW : Fr (fun _ => False) w0 wr := Fr.of_below hB1
          have y0 := hFW.cell x0 id
          have y1 := hFW.cell x1 id
          have y2 := hFW.cell x2 id
          have y3 := hFW.cell x3 id
          have HLT2 := Aside0.mk hlt2
          have HT := Aside0.mk (take_T55 hlt2)
          have HZ := Aside0.mk (size_T55 hlt2)
          have HB1 := Aside0.mk hB1
          have HXC := Aside0.mk hxC
          generalize rd_T55 a.f3 k = x at x0 x1 x2 x3 y0 y1 y2 y3 HT HZ HXC hxl hxC
          clear x0 x1 x2 x3 hFW hB1 hxC hxl
          have HW1 := Aside0.mk (HW.out.go ((Fr.refl (fun _ => False) wr).alloc (.cells #[.int .i64 x.f0, .int .i64 x.f1, .string x.f2, .slice A6 x.f3.length c6] 55)))
          have hcn := (blk_cell HW1.out.cnt 0).trans (show _ = some (Value.int .i64 m) from rfl)
          cases ok with
          | false =>
            go_wp2_with (fail)
            exact ⟨⟨k + 1, false, m, by go_num, rfl, HLT2.out, hm0, hm1, ⟨by rw [HT.out, kidsF_snoc, HS.out]; rfl⟩, HW1⟩, by have := HLT2.out; simp [intOf]; omega⟩
          | true =>
            by_cases hm : m ≤ 256
            · go_wp2_with (fail)
              refine (ih x (by have := HZ.out; omega) w0 _ A6 c6 b m HXC.out (HB1.out.trans (((Fr.refl (fun _ => False) wr).alloc _).below (by have := HB1.out.size; omega) (fun _ _ hf => hf))) HW1.out.cnt hlt hm0 hm).mono ?_
              rintro e W2 ⟨rfl, hc2, h20, h21, hF2⟩
              have HW2 := Aside0.mk (show PartsW w W2 a (some ad) c b (partsF syms x m).2 from ⟨hF2.blk HW1.out.box (by omega), hc2, HW1.out.fr.trans hF2 (fun _ _ h => h)⟩)
              have HS2 := Aside0.mk (show kidsF syms (a.f3.take (k + 1)) (ownF syms a) (n + 1) = ((partsF syms x m).1, (partsF syms x m).2) by rw [HT.out, kidsF_snoc, HS.out, if_pos ⟨rfl, hm⟩])
              generalize (partsF syms x m).1 = p at HS2 ⊢
              generalize (partsF syms x m).2 = q at HS2 HW2 h20 h21 hc2
              clear hc2 hF2 hcn
              go_wp2_with (fail)
              exact ⟨⟨k + 1, p, q, by go_num, rfl, HLT2.out, h20, h21, HS2, HW2⟩, by have := HLT2.out; simp [intOf]; omega⟩
            · go_wp2_with (fail)
              exact ⟨⟨k + 1, false, m, by go_num, rfl, HLT2.out, hm0, hm1, ⟨by rw [HT.out, kidsF_snoc, HS.out, if_neg (fun h => hm h.2)]⟩, HW1⟩, by have := HLT2.out; simp [intOf]; omega⟩
        · obtain rfl : k = a.f3.length := by omega
          have hS : kidsF syms a.f3 (ownF syms a) (n + 1) = (ok, m) := by have := HS.out; rwa [List.take_length] at this
          have HE := Aside0.mk (partsF_eq syms a n)
          rw [hS] at HE
          have hcn := (blk_cell HW.out.cnt 0).trans (show _ = some (Value.int .i64 m) from rfl)
          cases ok with
          | false =>
            go_wp2_with (fail)
            go_ret
            rw [HE.out]
            exact ⟨rfl, HW.out.cnt, hm0, hm1, HW.out.fr⟩
          | true =>
            go_wp2_with (fail)
            go_ret
            rw [HE.out]
            exact ⟨by simp, HW.out.cnt, hm0, hm1, HW.out.fr⟩
end Go.Proofs.Ytdngobjcdajogaa.Gram
namespace Go.Proofs.Ytdngobjcdajogaa.Gram
open Go.RowKit Go.Proofs.YtdngobjcdajogaaW.PrintWords Go.Proofs.YtdngobjcdajogaaW.PrintLast Go.Proofs.YtdngobjcdajogaaW.PrintMore Go.Proofs.Ytdngobjcdajogaa.Fr Go.Proofs.Ytdngobjcdajogaa.PGramFirsts Go.Proofs.Ytdngobjcdajogaa.TextSet
abbrev kI : Kd Int := Kd.int .i64
/-- A production may be, over K kinds and R rules. -/
structure ProdOk (K R : Nat) (p : S57) : Prop where
  l0 : 0 ≤ p.f0
  l1 : p.f0 < R
  len : p.f1.length ≤ 64
  lev : 0 ≤ p.f2
  syms : ∀ j : Nat, j < p.f1.length → 1 ≤ rd p.f1 j ∧ rd p.f1 j < K + R
  act : (partsF p.f1.length p.f3 0).1 = true
def ProdPost (K R : Nat) (p : S57) (e : Ending) : Prop := ∃ b, e = .returned (.bool b) ∧ (b = true ↔ ProdOk K R p)
theorem ProdPost.no {K R : Nat} {p : S57} (h : ¬ ProdOk K R p) : ProdPost K R p (.returned (.bool false)) := ⟨false, rfl, ⟨fun h => absurd h (by decide), fun h2 => absurd h2 h⟩⟩
theorem parts_calls (a : S55) (syms : Int) (w0 w : World) (A : Option Addr) (c b : Nat) (n : Int) (hk : k55.C w0 A a.f3.length a.f3) (hB : Below w0.heap.size w0 w) (hb : w.heap[b]? = some (.cells #[.int .i64 n] 3 (0, 0))) (hlt : w0.heap.size ≤ b) (h0 : 0 ≤ n) (h1 : n ≤ 256) :
    Calls Try.prog 83 #[.agg #[.int .i64 a.f0, .int .i64 a.f1, .string a.f2, .slice A a.f3.length c], .int .i64 syms, .pointer (some ⟨b, 0, none⟩)] w fun e w' =>
      e = .returned (.bool (partsF syms a n).1) ∧ w'.heap[b]? = some (.cells #[.int .i64 (partsF syms a n).2] 3 (0, 0)) ∧ 0 ≤ (partsF syms a n).2 ∧ (partsF syms a n).2 ≤ 257 ∧ Fr (fun k => k = b) w w' :=
  parts_upto syms (SizeOf.sizeOf a + 1) a (Nat.lt_succ_self _) w0 w A c b n hk hB hb hlt h0 h1
set_option maxHeartbeats 2000000 in
set_option maxRecDepth 100000 in
theorem prod_calls (w : World) (A0 A1 A2 A3 : Option Addr) (c0 c1 c2 c3 K P R Q : Nat) (st : Int) (p : S57) (B1 B6 : Option Addr) (d1 d6 : Nat) (hr : kI.C w B1 p.f1.length p.f1) (hk : k55.C w B6 p.f3.f3.length p.f3.f3) (hK : K ≤ 1024) (hR : R ≤ 2048) :
    Calls Try.prog 65 #[.agg #[.slice A0 K c0, .slice A1 P c1, .slice A2 R c2, .slice A3 Q c3, .int .i64 st],
      .agg #[.int .i64 p.f0, .slice B1 p.f1.length d1, .int .i64 p.f2, .int .i64 p.f3.f0, .int .i64 p.f3.f1, .string p.f3.f2, .slice B6 p.f3.f3.length d6]] w fun e w' =>
      ProdPost K R p e ∧ Fr (fun _ => False) w w' := by
  have hu := Try.underlying26
  have hu2 := Try.underlying57
  have hu3 := Try.underlying55
  have hm := Kd.C_max hr
  have HR := Aside0.mk hr
  have HK := Aside0.mk hk
  have HF := Aside0.mk ((((Fr.refl (fun _ => False) w).alloc (.cells #[.slice A0 K c0, .slice A1 P c1, .slice A2 R c2, .slice A3 Q c3, .int .i64 st] 26)).alloc (.cells #[.int .i64 p.f0, .slice B1 p.f1.length d1, .int .i64 p.f2, .int .i64 p.f3.f0, .int .i64 p.f3.f1, .string p.f3.f2, .slice B6 p.f3.f3.length d6] 57)))
  clear hr hk
  go_enter Try.func65, Try.ntmps65
  by_cases b1 : p.f0 < 0
  · go_wp2_with (fail)
    go_ret
    exact ⟨ProdPost.no (fun h => by have := h.l0; omega), HF.out⟩
  by_cases b2 : (R : Int) ≤ p.f0
  · go_wp2_with (fail)
    go_ret
    exact ⟨ProdPost.no (fun h => by have := h.l1; omega), HF.out⟩
  by_cases b3 : 64 < (p.f1.length : Int)
  · go_wp2_with (fail)
    go_ret
    exact ⟨ProdPost.no (fun h => by have := h.len; omega), HF.out⟩
  by_cases b4 : p.f2 < 0
  · go_wp2_with (fail)
    go_ret
    exact ⟨ProdPost.no (fun h => by have := h.lev; omega), HF.out⟩
  have HL := Aside0.mk (show 0 ≤ p.f0 ∧ p.f0 < R ∧ p.f1.length ≤ 64 ∧ 0 ≤ p.f2 from ⟨by omega, by omega, by omega, by omega⟩)
  go_wp2_with (fail)
  go_loop [33] (fun a => ∃ k : Nat, a = .int .i64 k ∧ k ≤ p.f1.length ∧ Aside0 (∀ j : Nat, j < k → 1 ≤ rd p.f1 j ∧ rd p.f1 j < K + R)) (fun a => p.f1.length - (intOf a).toNat)
  case atStart => exact ⟨0, rfl, Nat.zero_le _, ⟨fun j hj => by omega⟩⟩
  case round =>
    obtain ⟨k, rfl, hk, HS⟩ := hrel
    by_cases hlt : k < p.f1.length
    · obtain ⟨ad, rfl, hx⟩ := Kd.at_int (HF.out.C (S := fun _ => False) (0 : Int) HR.out (fun _ _ _ => id)) (k : Int) (by omega) (by omega)
      simp only [Int.toNat_natCast] at hx
      by_cases x1 : rd p.f1 (k : Int) < 1
      · go_wp2_with (fail)
        go_ret
        exact ⟨ProdPost.no (fun h => by have := (h.syms k hlt).1; omega), HF.out⟩
      by_cases x2 : (K : Int) + R ≤ rd p.f1 (k : Int)
      · go_wp2_with (fail)
        go_ret
        exact ⟨ProdPost.no (fun h => by have := (h.syms k hlt).2; omega), HF.out⟩
      have HX := Aside0.mk (show 1 ≤ rd p.f1 (k : Int) ∧ rd p.f1 (k : Int) < K + R from ⟨by omega, by omega⟩)
      have HLT := Aside0.mk hlt
      go_wp2_with (fail)
      exact ⟨⟨k + 1, by go_num, HLT.out, ⟨fun j hj => by
        by_cases e : j = k
        · rw [e]; exact HX.out
        · exact HS.out j (by omega)⟩⟩, by have := HLT.out; simp [intOf]; omega⟩
    · obtain rfl : k = p.f1.length := by omega
      go_wp2_with (fail)
      have hsz : ((w.alloc (.cells #[.slice A0 K c0, .slice A1 P c1, .slice A2 R c2, .slice A3 Q c3, .int .i64 st] 26)).alloc (.cells #[.int .i64 p.f0, .slice B1 p.f1.length d1, .int .i64 p.f2, .int .i64 p.f3.f0, .int .i64 p.f3.f1, .string p.f3.f2, .slice B6 p.f3.f3.length d6] 57)).heap.size = w.heap.size + 1 + 1 := by simp only [World.size_alloc]
      have hb0 := blk_new ((w.alloc (.cells #[.slice A0 K c0, .slice A1 P c1, .slice A2 R c2, .slice A3 Q c3, .int .i64 st] 26)).alloc (.cells #[.int .i64 p.f0, .slice B1 p.f1.length d1, .int .i64 p.f2, .int .i64 p.f3.f0, .int .i64 p.f3.f1, .string p.f3.f2, .slice B6 p.f3.f3.length d6] 57)) (.cells #[.int .i64 0] 3)
      rw [hsz] at hb0
      generalize (w.alloc (.cells #[.slice A0 K c0, .slice A1 P c1, .slice A2 R c2, .slice A3 Q c3, .int .i64 st] 26)).alloc (.cells #[.int .i64 p.f0, .slice B1 p.f1.length d1, .int .i64 p.f2, .int .i64 p.f3.f0, .int .i64 p.f3.f1, .string p.f3.f2, .slice B6 p.f3.f3.length d6] 57) = W0 at hb0 hsz HF ⊢
      have HF3 := HF.out.alloc (.cells #[.int .i64 0] 3)
      refine (parts_calls p.f3 p.f1.length w (W0.alloc (.cells #[.int .i64 0] 3)) B6 d6 (w.heap.size + 1 + 1) 0 HK.out HF3.to_below hb0 (by omega) (by decide) (by decide)).mono ?_
      rintro e W2 ⟨rfl, _, _, _, hF2⟩
      have HF2 := Aside0.mk (HF3.trans hF2 (fun i hi e => by omega))
      clear hF2 HF3 hb0
      go_wp2_with (fail)
      go_ret
      exact ⟨⟨_, rfl, ⟨fun h => ⟨HL.out.1, HL.out.2.1, HL.out.2.2.1, HL.out.2.2.2, HS.out, h⟩, fun h => h.act⟩⟩, HF2.out⟩
end Go.Proofs.Ytdngobjcdajogaa.Gram
