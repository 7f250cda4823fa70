/-
Whether a grammar may be: gram.Check, walked.
-/
import Derived.Test.YtdngobjcdajogaaT9QB
namespace Go.Proofs.Ytdngobjcdajogaa.Gram
open Go.RowKit Go.Proofs.YtdngobjcdajogaaW.PrintWords Go.Proofs.YtdngobjcdajogaaW.PrintLast Go.Proofs.YtdngobjcdajogaaW.PrintMore Go.Proofs.Ytdngobjcdajogaa.Fr Go.Proofs.Ytdngobjcdajogaa.PGramFirsts Go.Proofs.Ytdngobjcdajogaa.TextSet
/-- A grammar. -/
structure Gr where
  kinds : List ByteArray
  precs : List S73
  rules : List ByteArray
  prods : List S57
  start : Int
/-- The grammar that a value says, its parts at these places. -/
structure GAt (w : World) (G : Gr) (A0 A1 A2 A3 : Option Addr) (c0 c1 c2 c3 : Nat) : Prop where
  kinds : Kd.string.C w A0 G.kinds.length G.kinds
  precs : k73.C w A1 G.precs.length G.precs
  rules : Kd.string.C w A2 G.rules.length G.rules
  prods : k57.C w A3 G.prods.length G.prods
  l0 : G.kinds.length ≤ c0
  l1 : G.precs.length ≤ c1
  l2 : G.rules.length ≤ c2
  l3 : G.prods.length ≤ c3
  ok : ∀ s, s ∈ G.kinds → s.size ≤ maxLen
  ok2 : ∀ s, s ∈ G.rules → s.size ≤ maxLen
theorem GAt.go {w w1 : World} {G : Gr} {A0 A1 A2 A3 : Option Addr} {c0 c1 c2 c3 : Nat} (h : GAt w G A0 A1 A2 A3 c0 c1 c2 c3) (hF : Fr (fun _ => False) w w1) : GAt w1 G A0 A1 A2 A3 c0 c1 c2 c3 :=
  ⟨Kd.C_below h.kinds hF.to_below, Kd.C_below h.precs hF.to_below, Kd.C_below h.rules hF.to_below, Kd.C_below h.prods hF.to_below, h.l0, h.l1, h.l2, h.l3, h.ok, h.ok2⟩
def precF (i : Nat) (p : S73) : Bool := ((p.f0 == 0) && (p.f1 == 0)) || (decide (1 ≤ p.f0) && (decide (1 ≤ p.f1) && (decide (p.f1 ≤ 3) && decide ((2 : Int) ≤ i))))
def precsF (ok : Bool) (l : List S73) : Nat → Bool
  | 0 => ok
  | k + 1 => precsF ok l k && precF k (rd_T73 l k)
def nameF (l : List ByteArray) (k : Nat) : Bool := decide (1 ≤ ((rdS l k).size : Int)) && (decide (((rdS l k).size : Int) ≤ 4096) && !inS (rdS l k) (l.take k))
def namesF (ok : Bool) (l : List ByteArray) : Nat → Bool
  | 0 => ok
  | k + 1 => namesF ok l k && nameF l k
def startF (ok : Bool) (G : Gr) : Bool := ok && (decide (1 ≤ (G.rules.length : Int)) && (decide ((G.rules.length : Int) ≤ 2048) && (decide (0 ≤ G.start) && (decide (G.start < G.rules.length) && decide ((G.prods.length : Int) ≤ 4096)))))
/-- All but the productions. -/
def baseF (kb : Bool) (G : Gr) : Bool := namesF (startF (precsF (kb && ((G.precs.length : Int) == G.kinds.length)) G.precs G.precs.length) G) G.rules G.rules.length
theorem precsF_true {ok : Bool} {l : List S73} : ∀ {k : Nat}, precsF ok l k = true → ok = true
  | 0, h => h
  | k + 1, h => precsF_true (k := k) (by simp only [precsF, Bool.and_eq_true] at h; exact h.1)
theorem namesF_true {ok : Bool} {l : List ByteArray} : ∀ {k : Nat}, namesF ok l k = true → ok = true
  | 0, h => h
  | k + 1, h => namesF_true (k := k) (by simp only [namesF, Bool.and_eq_true] at h; exact h.1)
theorem startF_true {ok : Bool} {G : Gr} (h : startF ok G = true) : ok = true ∧ 1 ≤ G.rules.length ∧ G.rules.length ≤ 2048 ∧ 0 ≤ G.start ∧ G.start < G.rules.length ∧ G.prods.length ≤ 4096 := by
  simp only [startF, Bool.and_eq_true, decide_eq_true_eq] at h
  refine ⟨h.1, ?_, ?_, ?_, ?_, ?_⟩ <;> omega
theorem base_true {kb : Bool} {G : Gr} (h : baseF kb G = true) : kb = true ∧ 1 ≤ G.rules.length ∧ G.rules.length ≤ 2048 ∧ 0 ≤ G.start ∧ G.start < G.rules.length ∧ G.prods.length ≤ 4096 := by
  obtain ⟨h1, h2⟩ := startF_true (namesF_true h)
  have h3 := precsF_true h1
  rw [Bool.and_eq_true] at h3
  exact ⟨h3.1, h2⟩
/-- A grammar may be. -/
structure CheckOk (G : Gr) : Prop where
  kinds : KindsOk G.kinds
  base : baseF true G = true
  prods : ∀ j : Nat, j < G.prods.length → ProdOk G.kinds.length G.rules.length (rd_T57 G.prods j)
def CheckPost (G : Gr) (e : Ending) : Prop := ∃ r, e = .returned (.int .i64 r) ∧ (r = 0 ↔ CheckOk G) ∧ (r = 0 ∨ r = 130)
theorem inS_congr {s : ByteArray} {a b : List ByteArray} (h : ∀ s, s ∈ a ↔ s ∈ b) : inS s a = inS s b := by
  cases ha : inS s a with
  | true => exact (inS_iff.2 ((h s).1 (inS_iff.1 ha))).symm
  | false => cases hb : inS s b with
    | false => rfl
    | true => rw [inS_iff.2 ((h s).2 (inS_iff.1 hb))] at ha; cases ha
/-- Block m is the set of some texts, in whatever order. -/
def NSet (w : World) (m : Nat) (l : List ByteArray) : Prop := ∃ ks, SSet w m ks ∧ ∀ s, s ∈ ks ↔ s ∈ l
theorem NSet.fr {w w1 : World} {m : Nat} {l : List ByteArray} {S : Nat → Prop} (h : NSet w m l) (hF : Fr S w w1) (hm : ¬ S m) : NSet w1 m l := by
  obtain ⟨ks, hs, hm2⟩ := h
  exact ⟨ks, hs.fr hF hm, hm2⟩
theorem NSet.look {w : World} {m : Nat} {l : List ByteArray} (h : NSet w m l) (s : ByteArray) : (Instr.lookup 98 (.map (some m)) (.string s) false).run Try.prog w = .ok (.bool (inS s l)) w := by
  obtain ⟨ks, hs, hm⟩ := h
  rw [← inS_congr hm]
  exact TextSet.look w m ks hs s
theorem NSet.store {w : World} {m : Nat} {l : List ByteArray} (h : NSet w m l) (s : ByteArray) :
    ∃ w', (Instr.mapUpdate 98 (.map (some m)) (.string s) (.bool true)).run Try.prog w = .ok () w' ∧ NSet w' m (l ++ [s]) ∧ Fr (fun i => i = m) w w' := by
  obtain ⟨ks, hs, hm⟩ := h
  obtain ⟨w', h1, h2, h3⟩ := TextSet.store w m ks hs s
  refine ⟨w', h1, ⟨_, h2, fun t => ?_⟩, h3⟩
  by_cases hi : inS s ks = true
  · rw [if_pos hi, List.mem_append, List.mem_singleton]
    exact ⟨fun ht => .inl ((hm t).1 ht), fun ht => ht.elim (hm t).2 (fun e => e ▸ inS_iff.1 hi)⟩
  · rw [if_neg hi, List.mem_append, List.mem_append, hm t]
def OkP (G : Gr) (base : Bool) (i : Nat) (ok : Bool) : Prop := ok = true ↔ base = true ∧ ∀ j : Nat, j < i → ProdOk G.kinds.length G.rules.length (rd_T57 G.prods j)
theorem OkP.skip {G : Gr} {base : Bool} {i : Nat} (h : OkP G base i false) : OkP G base (i + 1) false :=
  ⟨fun h => absurd h (by decide), fun ⟨h1, h2⟩ => h.2 ⟨h1, fun j hj => h2 j (by omega)⟩⟩
theorem OkP.next {G : Gr} {base : Bool} {i : Nat} (h : OkP G base i true) {b : Bool} (hb : b = true ↔ ProdOk G.kinds.length G.rules.length (rd_T57 G.prods i)) : OkP G base (i + 1) b :=
  ⟨fun e => ⟨(h.1 rfl).1, fun j hj => by
    by_cases ej : j = i
    · rw [ej]; exact hb.1 e
    · exact (h.1 rfl).2 j (by omega)⟩, fun ⟨_, h2⟩ => hb.2 (h2 i (Nat.lt_succ_self i))⟩
/-- The world in a call of Check: the box of the grammar. -/
structure ChkW (w W : World) (G : Gr) (A0 A1 A2 A3 : Option Addr) (c0 c1 c2 c3 : Nat) : Prop where
  box : W.heap[w.heap.size]? = some (.cells #[.slice A0 G.kinds.length c0, .slice A1 G.precs.length c1, .slice A2 G.rules.length c2, .slice A3 G.prods.length c3, .int .i64 G.start] 26 (0, 0))
  fr : Fr (fun _ => False) w W
theorem ChkW.go {w W W1 : World} {G : Gr} {A0 A1 A2 A3 : Option Addr} {c0 c1 c2 c3 : Nat} (h : ChkW w W G A0 A1 A2 A3 c0 c1 c2 c3) (hF : Fr (fun _ => False) W W1) : ChkW w W1 G A0 A1 A2 A3 c0 c1 c2 c3 := ⟨hF.blk h.box id, h.fr.trans hF (fun _ _ hf => hf)⟩
theorem ChkW.cells {w W : World} {G : Gr} {A0 A1 A2 A3 : Option Addr} {c0 c1 c2 c3 : Nat} (h : ChkW w W G A0 A1 A2 A3 c0 c1 c2 c3) :
    W.cell? ⟨w.heap.size, 0, none⟩ = some (.slice A0 G.kinds.length c0) ∧ W.cell? ⟨w.heap.size, 1, none⟩ = some (.slice A1 G.precs.length c1) ∧ W.cell? ⟨w.heap.size, 2, none⟩ = some (.slice A2 G.rules.length c2) ∧ W.cell? ⟨w.heap.size, 3, none⟩ = some (.slice A3 G.prods.length c3) ∧ W.cell? ⟨w.heap.size, 4, none⟩ = some (.int .i64 G.start) :=
  ⟨(blk_cell h.box 0).trans rfl, (blk_cell h.box 1).trans rfl, (blk_cell h.box 2).trans rfl, (blk_cell h.box 3).trans rfl, (blk_cell h.box 4).trans rfl⟩
set_option maxHeartbeats 4000000 in
set_option maxRecDepth 100000 in
theorem check_calls (w : World) (G : Gr) (A0 A1 A2 A3 : Option Addr) (c0 c1 c2 c3 : Nat) (h : GAt w G A0 A1 A2 A3 c0 c1 c2 c3) :
    Calls Try.prog 26 #[.agg #[.slice A0 G.kinds.length c0, .slice A1 G.precs.length c1, .slice A2 G.rules.length c2, .slice A3 G.prods.length c3, .int .i64 G.start]] w fun e w' => CheckPost G e ∧ Fr (fun _ => False) w w' := by
  have hu := Try.underlying26
  have hu2 := Try.underlying57
  have hu3 := Try.underlying73
  have hm0 := Kd.C_max h.kinds
  have hm1 := Kd.C_max h.precs
  have hm2 := Kd.C_max h.rules
  have hm3 := Kd.C_max h.prods
  have HG := Aside0.mk h
  have HW := Aside0.mk (show ChkW w (w.alloc (.cells #[.slice A0 G.kinds.length c0, .slice A1 G.precs.length c1, .slice A2 G.rules.length c2, .slice A3 G.prods.length c3, .int .i64 G.start] 26)) G A0 A1 A2 A3 c0 c1 c2 c3 from ⟨blk_new w _, (Fr.refl _ w).alloc _⟩)
  clear h
  go_enter Try.func26, Try.ntmps26
  go_upto_region 1 with fail
  generalize w.alloc (.cells #[.slice A0 G.kinds.length c0, .slice A1 G.precs.length c1, .slice A2 G.rules.length c2, .slice A3 G.prods.length c3, .int .i64 G.start] 26) = W0 at HW ⊢
  obtain ⟨e0, e1, e2, e3, e4⟩ := HW.out.cells
  go_cut [3] from 13 to 25 (fun o wx => ∃ kb : Bool, o = .bool (kb && ((G.precs.length : Int) == G.kinds.length)) ∧ Aside0 (kb = true ↔ KindsOk G.kinds) ∧ Aside0 (ChkW w wx G A0 A1 A2 A3 c0 c1 c2 c3))
  case first =>
    have HG0 := Aside0.mk (HG.out.go HW.out.fr)
    go_wp2_with (fail)
    refine (kinds_calls W0 G.kinds A0 c0 HG0.out.kinds HG0.out.ok).mono ?_
    rintro e W1 ⟨⟨r, rfl, hr⟩, hF⟩
    have HR := Aside0.mk hr
    have HW1 := Aside0.mk (HW.out.go hF)
    obtain ⟨f0, f1, f2, f3, f4⟩ := HW1.out.cells
    clear hF hr
    cases hk : (r == 0) with
    | true =>
      go_wp2_with (fail)
      go_meet
      exact ⟨true, rfl, ⟨⟨fun _ => HR.out.1 (beq_iff_eq.1 hk), fun _ => rfl⟩⟩, HW1⟩
    | false =>
      go_wp2_with (fail)
      go_meet
      exact ⟨false, rfl, ⟨⟨fun h => absurd h (by decide), fun h => by rw [HR.out.2 h] at hk; cases hk⟩⟩, HW1⟩
  case rest =>
    clear HW e0 e1 e2 e3 e4
    obtain ⟨kb, rfl, HK, HW⟩ := hcut
    obtain ⟨e0, e1, e2, e3, e4⟩ := HW.out.cells
    go_wp2_with (fail)
    go_loopw [29, 3] (fun a o W => ∃ (i : Nat) (ok : Bool), a = .int .i64 i ∧ o = .bool ok ∧ i ≤ G.precs.length ∧ Aside0 (ok = precsF (kb && ((G.precs.length : Int) == G.kinds.length)) G.precs i) ∧ Aside0 (ChkW w W G A0 A1 A2 A3 c0 c1 c2 c3)) (fun a _ _ => G.precs.length - (intOf a).toNat)
    case atStart => exact ⟨0, _, rfl, rfl, Nat.zero_le _, ⟨rfl⟩, HW⟩
    case round =>
      clear HW e0 e1 e2 e3 e4
      obtain ⟨i, ok, rfl, rfl, hi, HO, HW⟩ := hrel
      by_cases hlt : i < G.precs.length
      · obtain ⟨ad, rfl, hx0, hx1⟩ := at_T73 HG.out.precs (i : Int) (by omega) (by omega)
        simp only [Int.toNat_natCast] at hx0 hx1
        have y0 := HW.out.fr.cell hx0 id
        have y1 := HW.out.fr.cell hx1 id
        have HLT := Aside0.mk hlt
        have HOS := Aside0.mk (show precsF (kb && ((G.precs.length : Int) == G.kinds.length)) G.precs (i + 1) = (ok && precF i (rd_T73 G.precs i)) by rw [HO.out]; rfl)
        generalize rd_T73 G.precs i = x at hx0 hx1 y0 y1 HOS
        have HW1 := Aside0.mk (HW.out.go ((Fr.refl (fun _ => False) wr).alloc (.cells #[.int .i64 x.f0, .int .i64 x.f1] 73)))
        clear hx0 hx1
        cases z0 : (x.f0 == 0) <;> cases z1 : (x.f1 == 0) <;> cases ok <;> go_wp2_with (fail)
        all_goals exact ⟨⟨i + 1, _, by go_num, rfl, HLT.out, ⟨by rw [HOS.out]; simp [precF, *] <;> omega⟩, HW1⟩, by have := HLT.out; simp [intOf]; omega⟩
      · obtain rfl : i = G.precs.length := by omega
        obtain ⟨e0, e1, e2, e3, e4⟩ := HW.out.cells
        go_upto_region 9 with fail
        go_cut [3] from 62 to 93 (fun o wx => o = .bool (startF ok G) ∧ wx = wr)
        case first =>
          cases ok <;> go_wp2_with (fail)
          all_goals go_meet
          all_goals exact ⟨congrArg Value.bool (by simp [startF, *] <;> omega), rfl⟩
        case rest =>
          obtain ⟨rfl, rfl⟩ := hcut
          have HO2 := Aside0.mk (show startF ok G = startF (precsF (kb && ((G.precs.length : Int) == G.kinds.length)) G.precs G.precs.length) G by rw [HO.out])
          have hmm := @run_makeMap Try.prog
          have HN := Aside0.mk (show NSet (wc.alloc (.map #[] 0)) wc.heap.size (G.rules.take 0) from ⟨[], fresh wc, fun s => by simp⟩)
          have HW2 := Aside0.mk (HW.out.go ((Fr.refl (fun _ => False) wc).alloc (.map #[] 0)))
          have hlt0 := blk_lt HW.out.box
          generalize startF ok G = ok2 at HO2 ⊢
          clear HW HO
          go_wp2_with (fail)
          go_loopw [98, 3] (fun a o W => ∃ (i : Nat) (ok : Bool), a = .int .i64 i ∧ o = .bool ok ∧ i ≤ G.rules.length ∧ Aside0 (ok = namesF ok2 G.rules i) ∧ Aside0 (NSet W wc.heap.size (G.rules.take i)) ∧ Aside0 (ChkW w W G A0 A1 A2 A3 c0 c1 c2 c3)) (fun a _ _ => G.rules.length - (intOf a).toNat)
          case atStart => exact ⟨0, _, rfl, rfl, Nat.zero_le _, ⟨rfl⟩, HN, HW2⟩
          case round =>
            clear HW2 HN e0 e1 e2 e3 e4
            obtain ⟨i, ok, rfl, rfl, hi, HO, HN, HW⟩ := hrel
            by_cases hlt : i < G.rules.length
            · obtain ⟨ad, rfl, hx⟩ := Kd.at_string HG.out.rules (i : Int) (by omega) (by omega)
              simp only [Int.toNat_natCast] at hx
              have y := HW.out.fr.cell hx id
              have HLT := Aside0.mk hlt
              have HOS := Aside0.mk (show namesF ok2 G.rules (i + 1) = (ok && nameF G.rules i) by rw [HO.out]; rfl)
              have hT := take_rdS hlt
              have HX := show rdS G.rules i = rdOf ByteArray.empty G.rules i from rfl
              unfold nameF at HOS
              rw [HX] at HOS hT
              generalize rdOf ByteArray.empty G.rules i = x at hx y HOS hT
              have hl := HN.out.look x
              obtain ⟨W2, hup, hN2, hF2⟩ := HN.out.store x
              rw [← hT] at hN2
              have HN2 := Aside0.mk hN2
              have HW2 := Aside0.mk (show ChkW w W2 G A0 A1 (some ad) A3 c0 c1 c2 c3 from ⟨hF2.blk HW.out.box (by omega), HW.out.fr.trans hF2 (fun k hk e => by omega)⟩)
              generalize inS x (G.rules.take i) = inx at hl HOS
              clear hx HX hT hN2 hF2
              cases ok <;> cases inx <;> go_wp2_with (fail)
              all_goals exact ⟨⟨i + 1, _, by go_num, rfl, HLT.out, ⟨by rw [HOS.out]; simp [*] <;> omega⟩, HN2, HW2⟩, by have := HLT.out; simp [intOf]; omega⟩
            · obtain rfl : i = G.rules.length := by omega
              obtain ⟨e0, e1, e2, e3, e4⟩ := HW.out.cells
              have HBS := Aside0.mk (show ok = baseF kb G by rw [HO.out, HO2.out]; rfl)
              have HP := Aside0.mk (show OkP G ok 0 ok from ⟨fun h => ⟨h, fun j hj => by omega⟩, fun h => h.1⟩)
              clear HO HO2 HN
              go_wp2_with (fail)
              go_loopw [125, 3] (fun a o W => ∃ (i : Nat) (ok2 : Bool), a = .int .i64 i ∧ o = .bool ok2 ∧ i ≤ G.prods.length ∧ Aside0 (OkP G ok i ok2) ∧ Aside0 (ChkW w W G A0 A1 A2 A3 c0 c1 c2 c3)) (fun a _ _ => G.prods.length - (intOf a).toNat)
              case atStart => exact ⟨0, _, rfl, rfl, Nat.zero_le _, HP, HW⟩
              case round =>
                clear HW HP e0 e1 e2 e3 e4
                obtain ⟨i, ok2, rfl, rfl, hi, HP, HW⟩ := hrel
                by_cases hlt : i < G.prods.length
                · obtain ⟨ad, B1, d1, B6, d6, rfl, x0, x1, x2, x3, x4, x5, x6, hl1, hC1, hl6, hC6⟩ := at_T57 HG.out.prods (i : Int) (by omega) (by omega)
                  simp only [Int.toNat_natCast] at x0 x1 x2 x3 x4 x5 x6
                  have y0 := HW.out.fr.cell x0 id
                  have y1 := HW.out.fr.cell x1 id
                  have y2 := HW.out.fr.cell x2 id
                  have y3 := HW.out.fr.cell x3 id
                  have y4 := HW.out.fr.cell x4 id
                  have y5 := HW.out.fr.cell x5 id
                  have y6 := HW.out.fr.cell x6 id
                  have HLT := Aside0.mk hlt
                  have HX := Aside0.mk (show rd_T57 G.prods i = rd_T57 G.prods (i : Int) from rfl)
                  have HC1 := Aside0.mk hC1
                  have HC6 := Aside0.mk hC6
                  have hq : ∀ {b : Bool}, (b = true ↔ ProdOk G.kinds.length G.rules.length (rd_T57 G.prods i)) = (b = true ↔ ProdOk G.kinds.length G.rules.length (rd_T57 G.prods (i : Int))) := rfl
                  have HNX := Aside0.mk (fun (h : OkP G ok i true) (b : Bool) hb => h.next (b := b) hb)
                  generalize rd_T57 G.prods (i : Int) = x at x0 x1 x2 x3 x4 x5 x6 y0 y1 y2 y3 y4 y5 y6 HX HC1 HC6 HNX hC1 hC6 hl1 hl6 hq
                  have HW1 := Aside0.mk (HW.out.go ((Fr.refl (fun _ => False) wr).alloc (.cells #[.int .i64 x.f0, .slice B1 x.f1.length d1, .int .i64 x.f2, .int .i64 x.f3.f0, .int .i64 x.f3.f1, .string x.f3.f2, .slice B6 x.f3.f3.length d6] 57)))
                  obtain ⟨e0, e1, e2, e3, e4⟩ := HW1.out.cells
                  clear x0 x1 x2 x3 x4 x5 x6 hC1 hC6 hl1 hl6 hq
                  cases ok2 with
                  | false =>
                    go_wp2_with (fail)
                    exact ⟨⟨i + 1, false, by go_num, rfl, HLT.out, ⟨HP.out.skip⟩, HW1⟩, by have := HLT.out; simp [intOf]; omega⟩
                  | true =>
                    have HKR := Aside0.mk (show G.kinds.length ≤ 1024 ∧ G.rules.length ≤ 2048 by
                      have h1 := (HP.out.1 rfl).1
                      rw [HBS.out] at h1
                      exact ⟨(HK.out.1 (base_true h1).1).max, (base_true h1).2.2.1⟩)
                    go_wp2_with (fail)
                    refine (prod_calls _ A0 A1 A2 (some ad) c0 c1 c2 c3 G.kinds.length G.precs.length G.rules.length G.prods.length G.start x B1 B6 d1 d6 (Kd.C_below HC1.out HW1.out.fr.to_below) (Kd.C_below HC6.out HW1.out.fr.to_below) HKR.out.1 HKR.out.2).mono ?_
                    rintro e W2 ⟨⟨b, rfl, hb⟩, hF2⟩
                    have HP2 := Aside0.mk (HNX.out HP.out b hb)
                    have HW2 := Aside0.mk (HW1.out.go hF2)
                    clear hb hF2
                    go_wp2_with (fail)
                    exact ⟨⟨i + 1, b, by go_num, rfl, HLT.out, HP2, HW2⟩, by have := HLT.out; simp [intOf]; omega⟩
                · obtain rfl : i = G.prods.length := by omega
                  cases ok2 with
                  | true =>
                    have HE := Aside0.mk (show CheckPost G (.returned (.int .i64 0)) from ⟨0, rfl, ⟨fun _ => by
                      obtain ⟨h1, h2⟩ := HP.out.1 rfl
                      have h3 : baseF kb G = true := by rw [← HBS.out]; exact h1
                      have hkb := (base_true h3).1
                      have h4 : baseF true G = true := by rw [hkb] at h3; exact h3
                      exact ⟨HK.out.1 hkb, h4, h2⟩, fun _ => rfl⟩, .inl rfl⟩)
                    go_wp2_with (fail)
                    go_ret
                    exact ⟨HE.out, HW.out.fr⟩
                  | false =>
                    have HE := Aside0.mk (show CheckPost G (.returned (.int .i64 130)) from ⟨130, rfl, ⟨fun h => absurd h (by decide), fun h => by
                      have hkb := HK.out.2 h.kinds
                      have h5 : baseF kb G = true := by rw [hkb]; exact h.base
                      have h1 : ok = true := by rw [HBS.out]; exact h5
                      exact absurd (HP.out.2 ⟨h1, h.prods⟩) (by decide)⟩, .inr rfl⟩)
                    go_wp2_with (fail)
                    go_ret
                    exact ⟨HE.out, HW.out.fr⟩
end Go.Proofs.Ytdngobjcdajogaa.Gram
