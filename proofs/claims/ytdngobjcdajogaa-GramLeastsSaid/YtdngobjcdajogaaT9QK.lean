/-
Marks are laid into one of the sets of one's own: gram.join, by contract, in all the ways that gram.follow calls it.
-/
import Derived.Test.YtdngobjcdajogaaT9QF
import Derived.Test.YtdngobjcdajogaaT9QJ
namespace Go.Proofs.Ytdngobjcdajogaa.Gram
open Go.RowKit Go.Proofs.YtdngobjcdajogaaW.PrintWords Go.Proofs.YtdngobjcdajogaaW.PrintLast Go.Proofs.YtdngobjcdajogaaW.PrintMore Go.Proofs.Ytdngobjcdajogaa.Fr Go.Proofs.Ytdngobjcdajogaa.PGramFirsts Go.Proofs.Ytdngobjcdajogaa.TextSet
/-- Two rows of rows of one's own lie in two blocks. -/
theorem rows_apart {W : World} {base gb n cap a b : Nat} {ok : Nat → Prop} {xs : List (List Bool)} (h : Kd.S kR 36 W base ok (.slice (some ⟨gb, 0, none⟩) n cap) xs) (ha : a < n) (hb : b < n) (hab : a ≠ b) {va vb : Value} (hca : W.cell? ⟨gb, a, none⟩ = some va) (hcb : W.cell? ⟨gb, b, none⟩ = some vb) :
    ∀ k, va.ownBlock = some k → vb.ownBlock ≠ some k := by
  have hn := (Kd.S_reads' h).1
  obtain ⟨oki, c, _, hM, hcc, _, hok, hH⟩ := Kd.S_elem h [] (a : Int) (by omega) (by omega)
  obtain ⟨ve, rfl, hR⟩ := hM
  have h2 := hcc 0 _ rfl
  simp only [show kR.sz = 1 from rfl, Nat.mul_one, Nat.add_zero, Int.toNat_natCast] at h2
  rw [hca] at h2
  injection h2 with h2
  subst h2
  obtain ⟨_, f, hRR⟩ := hH
  obtain ⟨c', _, hM', hcc', _⟩ := Kd.R_elem hRR ([], b) (b : Int) (by omega) (by omega)
  have e : (xs.zipIdx.getD (b : Int).toNat ([], b)) = (xs[b]'(by omega), b) := by
    rw [Int.toNat_natCast, List.getD_eq_getElem?_getD, List.getElem?_zipIdx, List.getElem?_eq_getElem (by omega)]
    simp
  rw [e] at hM'
  obtain ⟨vb', rfl, hRb⟩ := hM'.2 (by simp; omega)
  have h3 : W.cell? ⟨gb, b, none⟩ = some vb' := by
    have h4 := hcc' 0 _ rfl
    rwa [show (b : Int).toNat * (Kd.gap f kR (a : Int).toNat [va]).sz + 0 = b from Nat.mul_one b] at h4
  rw [hcb] at h3
  injection h3 with h3
  subst h3
  exact fun k hk e => (hRb.1 k e).1.1.2 (hR.1 k hk)
theorem rows_ok {W : World} {base n gb cap i : Nat} {ok : Nat → Prop} {xs : List (List Bool)} (h : Kd.S kR 36 W base ok (.slice (some ⟨gb, 0, none⟩) n cap) xs) (hi : i < n) {v : Value} (hv : W.cell? ⟨gb, i, none⟩ = some v) : ∀ k, v.ownBlock = some k → ok k := fun k hk => by
  obtain ⟨A, c, oki, hc, _, hR, hok⟩ := rows_at h hi
  rw [hc] at hv
  injection hv with hv
  subst hv
  exact (hok k (hR.1 k hk)).1
/-- Marks are laid into the sets of rule a. -/
theorem ojoin_calls {W : World} {mid P gb fc : Nat} {G : Gr} {F : List (List Bool)} (h : Kd.S kR 36 W mid (fun k => k < P) (.slice (some ⟨gb, 0, none⟩) G.rules.length fc) F) (hs : Sized G F) (hK : 1 ≤ G.kinds.length) {a : Int} (ha : 0 ≤ a) (ha2 : a < G.rules.length) {A : Option Addr} {c : Nat} {f : List Bool} (hf : kB.C W A f.length f) (hl : f.length = G.kinds.length)
    (hne : ∀ (v : Value) (ad : Addr), W.cell? ⟨gb, a.toNat, none⟩ = some v → A = some ad → v.ownBlock ≠ some ad.block) :
    ∃ Ar cr, W.cell? ⟨gb, a.toNat, none⟩ = some (.slice Ar G.kinds.length cr) ∧ ∀ W1, Fr (fun _ => False) W W1 →
      Calls Try.prog 67 #[.slice Ar G.kinds.length cr, .slice A G.kinds.length c] W1 fun e w' => e = .returned (.bool (someL (rd_L7 F a) f G.kinds.length)) ∧ Kd.S kR 36 w' mid (fun k => k < P) (.slice (some ⟨gb, 0, none⟩) G.rules.length fc) (F.set a.toNat (joinL (rd_L7 F a) f G.kinds.length)) ∧ Fr (fun k => mid ≤ k ∧ k < P ∧ k ≠ gb) W1 w' := by
  have hfk := hs.fk a.toNat (by omega)
  have ea : ((a.toNat : Nat) : Int) = a := by omega
  rw [ea] at hfk
  obtain ⟨g, cr, hc, _⟩ := sets_borrow h hs hK ha ha2
  refine ⟨_, _, hc, fun W1 hF1 => ?_⟩
  obtain ⟨g2, cr2, hc2, hm, hp, hneg, hR, hback⟩ := sets_borrow (Kd.S_below h hF1.to_below) hs hK ha ha2
  rw [hF1.cell hc id] at hc2
  injection hc2 with hc2
  injection hc2 with e1 _ e2
  injection e1 with e1
  injection e1 with e1
  subst e1 e2
  have hf1 := Kd.C_below hf hF1.to_below
  rw [← hfk] at hR
  have hj := join_calls W1 mid g cr (fun k => k = g) (rd_L7 F a) f A c hR hf1 (fun ad e _ eg => hne _ ad hc e (by rw [eg]; rfl)) (by omega)
  rw [hfk, hl] at hj
  refine hj.mono ?_
  rintro e w' ⟨rfl, hR2, hF2⟩
  exact ⟨rfl, hback w' _ hF2 (by rw [joinL_length]; exact hfk) hR2, hF2.mono (fun k hk => by rw [hk]; exact ⟨hm, hp, hneg⟩)⟩
set_option maxHeartbeats 2000000 in
set_option maxRecDepth 100000 in
/-- A row laid into itself. -/
theorem join_self (w : World) (l : List Bool) (A : Option Addr) (c : Nat) (hf : kB.C w A l.length l) :
    Calls Try.prog 67 #[.slice A l.length c, .slice A l.length c] w fun e w' => e = .returned (.bool false) ∧ Fr (fun _ => False) w w' := by
  have hm := Kd.C_max hf
  have HF := Aside0.mk hf
  clear hf
  go_enter Try.func67, Try.ntmps67
  go_wp2_with (fail)
  go_loop [10, 5] (fun a b => ∃ (i : Nat), a = .int .i64 i ∧ b = .bool false ∧ i ≤ l.length) (fun a _ => l.length - (intOf a).toNat)
  case atStart => exact ⟨0, rfl, rfl, Nat.zero_le _⟩
  case round =>
    obtain ⟨i, rfl, rfl, hi⟩ := hrel
    by_cases hlt : i < l.length
    · obtain ⟨ad, rfl, hx⟩ := Kd.at_bool HF.out (i : Int) (by omega) (by omega)
      simp only [Int.toNat_natCast] at hx
      have HLT := Aside0.mk hlt
      cases hb : rdOf false l (i : Int) with
      | false =>
        rw [hb] at hx
        go_wp2_with (fail)
        exact ⟨⟨i + 1, by go_num, rfl, HLT.out⟩, by have := HLT.out; simp [intOf]; omega⟩
      | true =>
        rw [hb] at hx
        go_wp2_with (fail)
        exact ⟨⟨i + 1, by go_num, rfl, HLT.out⟩, by have := HLT.out; simp [intOf]; omega⟩
    · obtain rfl : i = l.length := by omega
      go_wp2_with (fail)
      go_ret
      exact ⟨rfl, Fr.refl _ _⟩
/-- Something laid into a set: fewer marks lack, where it was new. -/
theorem falses_join {G : Gr} {F : List (List Bool)} (hF : Sized G F) {a : Int} (h0 : 0 ≤ a) (h1 : a < G.rules.length) {f : List Bool} (hf : f.length = G.kinds.length) :
    falses (F.set a.toNat (joinL (rd_L7 F a) f G.kinds.length)) + (if someL (rd_L7 F a) f G.kinds.length = true then 1 else 0) ≤ falses F ∧ Sized G (F.set a.toNat (joinL (rd_L7 F a) f G.kinds.length)) := by
  have hfk := hF.fk a.toNat (by omega)
  rw [Int.toNat_of_nonneg h0] at hfk
  have h4 := (join_falses (rd_L7 F a) f (by omega) _ (Nat.le_refl _)).1
  rw [hf] at h4
  exact ⟨falses_set F _ _ _ (by rw [hF.fl]; omega) h4, hF.set (by omega) (by rw [joinL_length]; exact hfk)⟩
/-- One of the sets of one's own is laid into another, or into itself. -/
theorem ojoin2_calls {W : World} {mid P gb fc : Nat} {G : Gr} {F : List (List Bool)} (h : Kd.S kR 36 W mid (fun k => k < P) (.slice (some ⟨gb, 0, none⟩) G.rules.length fc) F) (hs : Sized G F) (hK : 1 ≤ G.kinds.length) {a l : Int} (ha : 0 ≤ a) (ha2 : a < G.rules.length) (hl0 : 0 ≤ l) (hl1 : l < G.rules.length) :
    ∃ Aa ca Al cl b F2, W.cell? ⟨gb, a.toNat, none⟩ = some (.slice Aa G.kinds.length ca) ∧ W.cell? ⟨gb, l.toNat, none⟩ = some (.slice Al G.kinds.length cl) ∧ Sized G F2 ∧ falses F2 + (if b = true then 1 else 0) ≤ falses F ∧ ∀ W1, Fr (fun _ => False) W W1 →
      Calls Try.prog 67 #[.slice Aa G.kinds.length ca, .slice Al G.kinds.length cl] W1 fun e w' => e = .returned (.bool b) ∧ Kd.S kR 36 w' mid (fun k => k < P) (.slice (some ⟨gb, 0, none⟩) G.rules.length fc) F2 ∧ Fr (fun k => mid ≤ k ∧ k < P ∧ k ≠ gb) W1 w' := by
  have hlk := hs.fk l.toNat (by omega)
  have el : ((l.toNat : Nat) : Int) = l := by omega
  rw [el] at hlk
  have hC := (Kd.S_reads' h).2.2
  obtain ⟨adl, Al, cl, e1, hcl, _, hCl⟩ := at_L7 hC l hl0 (by rw [hs.fl]; exact hl1)
  injection e1 with e1
  subst e1
  rw [add_plain, hlk] at hcl
  by_cases hal : a = l
  · subst hal
    refine ⟨Al, cl, Al, cl, false, F, hcl, hcl, hs, by simp, fun W1 hF1 => ?_⟩
    have := join_self W1 (rd_L7 F a) Al cl (Kd.C_below hCl hF1.to_below)
    rw [hlk] at this
    refine this.mono ?_
    rintro e w' ⟨rfl, hF2⟩
    exact ⟨rfl, Kd.S_below h (hF1.trans hF2 (fun _ _ h => h)).to_below, hF2.mono (fun _ hk => hk.elim)⟩
  · obtain ⟨Aa, ca, hca, hcalls⟩ := ojoin_calls h hs hK ha ha2 (A := Al) (c := cl) hCl hlk (fun v ad hv hA => by
      intro e
      have h1 := rows_apart h (a := a.toNat) (b := l.toNat) (by omega) (by omega) (by omega) hv hcl ad.block e
      rw [hA] at h1
      exact h1 rfl)
    obtain ⟨h1, h2⟩ := falses_join hs ha ha2 (f := rd_L7 F l) hlk
    exact ⟨Aa, ca, Al, cl, _, _, hca, hcl, h2, h1, hcalls⟩
end Go.Proofs.Ytdngobjcdajogaa.Gram
namespace Go.Proofs.Ytdngobjcdajogaa.Gram
open Go.RowKit Go.Proofs.YtdngobjcdajogaaW.PrintWords Go.Proofs.YtdngobjcdajogaaW.PrintLast Go.Proofs.YtdngobjcdajogaaW.PrintMore Go.Proofs.Ytdngobjcdajogaa.Fr Go.Proofs.Ytdngobjcdajogaa.PGramFirsts Go.Proofs.Ytdngobjcdajogaa.TextSet
/-- What stands in a call of follow: the sets of its own. -/
structure OS (w W : World) (G : Gr) (gb fc P : Nat) (F : List (List Bool)) : Prop where
  fr : Fr (fun _ => False) w W
  rows : Kd.S kR 36 W (w.heap.size + 1) (fun k => k < P) (.slice (some ⟨gb, 0, none⟩) G.rules.length fc) F
  le : P ≤ W.heap.size
theorem OS.go {w W W1 : World} {G : Gr} {gb fc P : Nat} {F : List (List Bool)} (h : OS w W G gb fc P F) (hF : Fr (fun _ => False) W W1) : OS w W1 G gb fc P F := ⟨h.fr.trans hF (fun _ _ h => h), Kd.S_below h.rows hF.to_below, Nat.le_trans h.le hF.size⟩
theorem OS.next {w W W1 W2 : World} {G : Gr} {gb fc P : Nat} {F F2 : List (List Bool)} (h : OS w W G gb fc P F) (hF : Fr (fun _ => False) W W1) (hF2 : Fr (fun k => w.heap.size + 1 ≤ k ∧ k < P ∧ k ≠ gb) W1 W2) (hS : Kd.S kR 36 W2 (w.heap.size + 1) (fun k => k < P) (.slice (some ⟨gb, 0, none⟩) G.rules.length fc) F2) : OS w W2 G gb fc P F2 :=
  ⟨(h.fr.trans hF (fun _ _ h => h)).trans hF2 (fun k hk e => by have := e.1; omega), hS, Nat.le_trans h.le (Nat.le_trans hF.size hF2.size)⟩
def FollowPost (w : World) (G : Gr) (e : Ending) (w' : World) : Prop := ∃ v F, e = .returned v ∧ Kd.S kR 36 w' (w.heap.size + 1) (fun _ => True) v F ∧ Sized G F
set_option maxHeartbeats 8000000 in
set_option maxRecDepth 100000 in
theorem follow_calls (w : World) (p : Nat) (G : Gr) (A0 A1 A2 A3 NA FA RA : Option Addr) (c0 c1 c2 c3 nc fc rc : Nat) (N reach : List Bool) (F : List (List Bool)) (h : KAt w p G A0 A1 A2 A3 NA FA c0 c1 c2 c3 nc fc N F) (hc : CheckOk G) (hr : kB.C w RA reach.length reach) (hrl : reach.length = G.rules.length) :
    Calls Try.prog 42 #[.pointer (some ⟨p, 0, none⟩), .slice RA reach.length rc] w fun e w' => FollowPost w G e w' ∧ Fr (fun _ => False) w w' := by
  have hu := Try.underlying26
  have hu2 := Try.underlying57
  have hu3 := Try.underlying79
  have hm3 := Kd.C_max h.g.prods
  have hR1 := (base_true hc.base).2.1
  have hR2 := (base_true hc.base).2.2.1
  have hs0 := (base_true hc.base).2.2.2.1
  have hs1 := (base_true hc.base).2.2.2.2.1
  have hQ2 := (base_true hc.base).2.2.2.2.2
  have hK1 := hc.kinds.two
  have hK2 := hc.kinds.max
  have HK := Aside0.mk h
  have HC := Aside0.mk hc
  have HR := Aside0.mk hr
  have HRL := Aside0.mk hrl
  have HSF := Aside0.mk (show Sized G F from ⟨h.fl, h.fk⟩)
  obtain ⟨k0, k1, k2, k3, k4, k5, k6⟩ := h.cells
  clear h hc hr
  go_enter Try.func42, Try.ntmps42
  go_wp2_with (fail)
  refine (fresh_calls _ G A0 A1 A2 A3 c0 c1 c2 c3 hR1 hR2 (by omega)).mono ?_
  rintro e W1 ⟨v1, rfl, hS1, hF1⟩
  obtain ⟨gb, oc, rfl, _⟩ := Kd.S_form hS1 (by rw [(fresh_sized G).fl]; exact hR1)
  rw [(fresh_sized G).fl] at hS1 ⊢
  have HO1 := Aside0.mk (show OS w W1 G gb oc W1.heap.size (freshL G.rules.length G.kinds.length) from ⟨hF1, Kd.S_mono (Kd.S_bound hS1) (fun k hk => hk.2.2.1), Nat.le_refl _⟩)
  clear hS1 hF1 k0 k1 k2 k3 k4 k5 k6
  generalize hP : W1.heap.size = P at HO1
  clear hP
  obtain ⟨k0, k1, k2, k3, k4, k5, k6⟩ := (HK.out.go HO1.out.fr).cells
  obtain ⟨g, cr, hcr, hgm, hgP, hgne, hRg, hback⟩ := sets_borrow HO1.out.rows (fresh_sized G) (by omega) hs0 hs1
  obtain ⟨hx1, hx2⟩ := marks_at hRg (i := 0) (Int.le_refl _) (by omega)
  have hput := Kd.R_putn hRg 0 true
  have hrow : rd_L7 (freshL G.rules.length G.kinds.length) G.start = List.replicate G.kinds.length false := by
    simp only [rd_L7, freshL, List.getD_eq_getElem?_getD, List.getElem?_replicate]
    rw [if_pos (by omega)]
    rfl
  rw [hrow] at hput hx1
  have hFg : Fr (fun k => k = g) W1 (W1.setCell ⟨g, (0 : Int).toNat, none⟩ (.bool true)) := (Fr.refl (fun k => k = g) W1).set (g := g) (o := (0 : Int).toNat) _ (fun _ => rfl)
  have HO2 := Aside0.mk (HO1.out.next (Fr.refl _ _) (hFg.mono (fun k hk => by rw [hk]; exact ⟨hgm, hgP, hgne⟩)) (hback _ _ hFg (by simp) hput))
  have hz : falses ((freshL G.rules.length G.kinds.length).set G.start.toNat ((List.replicate G.kinds.length false).set (0 : Int).toNat true)) + 1 ≤ G.rules.length * G.kinds.length := by
    have h2 := set_falses (l := List.replicate G.kinds.length false) (k := 0) (by simp; omega) (by simp only [rdOf, List.getD_eq_getElem?_getD, List.getElem?_replicate]; split <;> rfl)
    rw [← falses_fresh]
    refine falses_set _ _ _ 1 (by rw [(fresh_sized G).fl]; omega) ?_
    have h3 : (freshL G.rules.length G.kinds.length).getD G.start.toNat [] = List.replicate G.kinds.length false := hrow
    rw [h3]
    exact Nat.le_of_eq h2
  have HZ2 := Aside0.mk ((fresh_sized G).set (a := G.start.toNat) (r := (List.replicate G.kinds.length false).set (0 : Int).toNat true) (by omega) (by simp))
  clear hback hput hrow hRg hFg HO1
  have hx1 : W1.cell? ⟨g, 0, none⟩ = some (.bool (rdOf false (List.replicate G.kinds.length false) 0)) := hx1
  have hx2 : W1.frozen? ⟨g, 0, none⟩ = false := hx2
  go_upto_region 3 with fail
  clear hx1 hx2 hcr k0 k1 k2 k3 k4 k5 k6
  have HO2 : Aside0 (OS w (W1.setCell ⟨g, 0, none⟩ (.bool true)) G gb oc P _) := HO2
  generalize W1.setCell ⟨g, 0, none⟩ (.bool true) = W2 at HO2 ⊢
  generalize (freshL G.rules.length G.kinds.length).set G.start.toNat ((List.replicate G.kinds.length false).set (0 : Int).toNat true) = F0 at HO2 HZ2 hz
  go_wp2_with (fail)
  go_loopg [6] (G.rules.length * G.kinds.length + 1) (fun k a W => ∃ (sm : Bool) (F' : List (List Bool)), a = .bool sm ∧ falses F' + (if sm = true then 1 else 0) ≤ k ∧ Aside0 (OS w W G gb oc P F') ∧ Aside0 (Sized G F'))
  case atStart => exact ⟨true, _, rfl, by rw [if_pos rfl]; omega, HO2, HZ2⟩
  case round =>
    clear HO2 HZ2 hz
    obtain ⟨sm, F', rfl, hk, HO, HZ⟩ := hrel
    cases sm with
    | false =>
      have HE := Aside0.mk (Kd.S_mono HO.out.rows (fun _ _ => trivial : ∀ k, k < P → True))
      go_wp2_with (fail)
      go_ret
      exact ⟨⟨_, _, rfl, HE.out, HZ.out⟩, HO.out.fr⟩
    | true =>
      simp only [if_pos] at hk
      obtain ⟨k0, k1, k2, k3, k4, k5, k6⟩ := (HK.out.go HO.out.fr).cells
      have hk1 : falses F' + (if false = true then 1 else 0) ≤ gk - 1 := by simp; omega
      have hk2 : 0 < gk := by omega
      clear hk
      go_wp2_with (fail)
      go_loopw [35, 6] (fun a b W => ∃ (i : Nat) (sm : Bool) (F' : List (List Bool)), a = .int .i64 i ∧ b = .bool sm ∧ i ≤ G.prods.length ∧ falses F' + (if sm = true then 1 else 0) ≤ gk - 1 ∧ Aside0 (OS w W G gb oc P F') ∧ Aside0 (Sized G F')) (fun a _ _ => G.prods.length - (intOf a).toNat)
      case atStart => exact ⟨0, false, F', rfl, rfl, Nat.zero_le _, hk1, HO, HZ⟩
      case round =>
        clear HO HZ k0 k1 k2 k3 k4 k5 k6 hk1
        obtain ⟨i, sm, F', rfl, rfl, hi, hk1, HO, HZ⟩ := hrel
        by_cases hlt : i < G.prods.length
        · have HLT := Aside0.mk hlt
          obtain ⟨ad, B1, d1, B6, d6, rfl, x0, x1, x2, x3, x4, x5, x6, hl1, hC1, hl6, hC6⟩ := at_T57 HK.out.g.prods (i : Int) (by omega) (by omega)
          simp only [Int.toNat_natCast] at x0 x1 x2 x3 x4 x5 x6
          have y0 := HO.out.fr.cell x0 id
          have y1 := HO.out.fr.cell x1 id
          have y2 := HO.out.fr.cell x2 id
          have y3 := HO.out.fr.cell x3 id
          have y4 := HO.out.fr.cell x4 id
          have y5 := HO.out.fr.cell x5 id
          have y6 := HO.out.fr.cell x6 id
          have HC1 := Aside0.mk hC1
          have HL1 := Aside0.mk hl1
          have HPI := Aside0.mk (HC.out.prodsOk i hlt)
          clear x0 x1 x2 x3 x4 x5 x6 hC1 hC6 hl6 hl1
          go_upto_region 9 with fail
          have HOA := Aside0.mk (HO.out.go ((Fr.refl (fun _ => False) wr).alloc (.cells #[.int .i64 (rd_T57 G.prods (i : Int)).f0, .slice B1 (rd_T57 G.prods (i : Int)).f1.length d1, .int .i64 (rd_T57 G.prods (i : Int)).f2, .int .i64 (rd_T57 G.prods (i : Int)).f3.f0, .int .i64 (rd_T57 G.prods (i : Int)).f3.f1, .string (rd_T57 G.prods (i : Int)).f3.f2, .slice B6 (rd_T57 G.prods (i : Int)).f3.f3.length d6] 57)))
          have HPB := Aside0.mk (blk_new wr (.cells #[.int .i64 (rd_T57 G.prods (i : Int)).f0, .slice B1 (rd_T57 G.prods (i : Int)).f1.length d1, .int .i64 (rd_T57 G.prods (i : Int)).f2, .int .i64 (rd_T57 G.prods (i : Int)).f3.f0, .int .i64 (rd_T57 G.prods (i : Int)).f3.f1, .string (rd_T57 G.prods (i : Int)).f3.f2, .slice B6 (rd_T57 G.prods (i : Int)).f3.f3.length d6] 57))
          have hPq : P ≤ wr.heap.size := HO.out.le
          generalize wr.alloc (.cells #[.int .i64 (rd_T57 G.prods (i : Int)).f0, .slice B1 (rd_T57 G.prods (i : Int)).f1.length d1, .int .i64 (rd_T57 G.prods (i : Int)).f2, .int .i64 (rd_T57 G.prods (i : Int)).f3.f0, .int .i64 (rd_T57 G.prods (i : Int)).f3.f1, .string (rd_T57 G.prods (i : Int)).f3.f2, .slice B6 (rd_T57 G.prods (i : Int)).f3.f3.length d6] 57) = W5 at HOA HPB ⊢
          generalize wr.heap.size = q at HPB hPq ⊢
          clear y0 y1 y2 y3 y4 y5 y6 HO
          have hro := HPI.out.2.2.2
          have hrlen := HPI.out.2.2.1
          have hlf0 := HPI.out.1
          have hlf1 := HPI.out.2.1
          rw [show rd_T57 G.prods i = rd_T57 G.prods (i : Int) from rfl] at hro hrlen hlf0 hlf1
          have HRO := Aside0.mk hro
          clear hro HPI
          generalize rd_T57 G.prods (i : Int) = pr at HPB HRO hrlen hlf0 hlf1 HC1 HL1 ⊢
          have z0 := (blk_cell HPB.out 0).trans (show _ = some (Value.int .i64 pr.f0) from rfl)
          have z1 := (blk_cell HPB.out 1).trans (show _ = some (Value.slice B1 pr.f1.length d1) from rfl)
          obtain ⟨adr, rfl, hxr⟩ := Kd.at_bool (Kd.C_below HR.out HOA.out.fr.to_below) pr.f0 hlf0 (by omega)
          cases hrb : rdOf false reach pr.f0 with
          | false =>
            rw [hrb] at hxr
            go_wp2_with (fail)
            exact ⟨⟨i + 1, sm, F', by go_num, rfl, HLT.out, hk1, HOA, HZ⟩, by have := HLT.out; simp [intOf]; omega⟩
          | true =>
            rw [hrb] at hxr
            go_wp2_with (fail)
            clear z0 z1 hxr hrb
            go_loopw [48, 6] (fun a b W => ∃ (t : Nat) (sm : Bool) (F' : List (List Bool)), a = .int .i64 t ∧ b = .bool sm ∧ t ≤ pr.f1.length ∧ falses F' + (if sm = true then 1 else 0) ≤ gk - 1 ∧ Aside0 (OS w W G gb oc P F') ∧ Aside0 (Sized G F') ∧ Aside0 (W.heap[q]? = some (.cells #[.int .i64 pr.f0, .slice B1 pr.f1.length d1, .int .i64 pr.f2, .int .i64 pr.f3.f0, .int .i64 pr.f3.f1, .string pr.f3.f2, .slice B6 pr.f3.f3.length d6] 57 (0, 0)))) (fun a _ _ => pr.f1.length - (intOf a).toNat)
            case atStart => exact ⟨0, sm, F', rfl, rfl, Nat.zero_le _, hk1, HOA, HZ, HPB⟩
            case round =>
              clear HOA HZ HPB hk1
              obtain ⟨t, sm, F', rfl, rfl, ht, hk1, HO, HZ, HPB⟩ := hrel
              by_cases htl : t < pr.f1.length
              · have HTL := Aside0.mk htl
                obtain ⟨j1, j2, j3, B1', d1', j4, j5, j6⟩ := ints_cut HC1.out HL1.out t htl
                obtain ⟨ax, rfl, hx⟩ := Kd.at_int (HO.out.fr.C (S := fun _ => False) (0 : Int) HC1.out (fun _ _ _ => id)) (t : Int) (by omega) (by omega)
                simp only [Int.toNat_natCast] at hx
                obtain ⟨hx1, hx2⟩ := HRO.out t htl
                generalize rd pr.f1 (t : Int) = x at hx hx1 hx2
                have HCD := Aside0.mk j5
                have HRD := Aside0.mk (HRO.out.drop (t + 1))
                clear j5 j6
                generalize pr.f1.drop (t + 1) = rw at j4 HCD HRD
                obtain ⟨k0, k1, k2, k3, k4, k5, k6⟩ := (HK.out.go HO.out.fr).cells
                have hwr : IntKind.i64.wrap ((t : Int) + 1) = (t : Int) + 1 := by rw [i64_w]; simp only [wrap64]; omega
                clear j1 j2 j3
                go_wp2_with (fail)
                refine (isRule_calls _ G A0 A1 A2 (some ad) c0 c1 c2 c3 (HK.out.g.go HO.out.fr) hK2 x hx1 (by omega)).mono ?_
                rintro e W7 ⟨rfl, hF7⟩
                have HO7 := Aside0.mk (HO.out.go hF7)
                have HPB7 := Aside0.mk (hF7.blk HPB.out id)
                clear HO HPB hF7 k0 k1 k2 k3 k4 k5 k6 hx
                by_cases hxk : x < G.kinds.length
                · rw [if_pos hxk]
                  go_wp2_with (fail)
                  exact ⟨⟨t + 1, sm, F', by go_num, rfl, HTL.out, hk1, HO7, HZ, HPB7⟩, by have := HTL.out; simp [intOf]; omega⟩
                · rw [if_neg hxk]
                  have ha0 : 0 ≤ x - G.kinds.length := by omega
                  have ha1 : x - G.kinds.length < G.rules.length := by omega
                  generalize x - (G.kinds.length : Int) = a at ha0 ha1 ⊢
                  have z1 := (blk_cell HPB7.out 1).trans (show _ = some (Value.slice (some ax) pr.f1.length d1) from rfl)
                  go_wp2_with (fail)
                  refine (row_calls W7 p G A0 A1 A2 (some ad) NA FA B1' c0 c1 c2 c3 nc fc d1' N F rw (HK.out.go HO7.out.fr) (by omega) hK2 hR2 (Kd.C_below HCD.out HO7.out.fr.to_below) HRD.out).mono ?_
                  rintro e W8 ⟨v8, rfl, hR8, hF8⟩
                  have hfl := (rowF_spec (N := N) HSF.out rw (List.replicate G.kinds.length false) HRD.out.syms (by simp)).1
                  generalize rowF G.kinds.length N F (List.replicate G.kinds.length false) rw = rr at hfl hR8 ⊢
                  obtain ⟨rm, em⟩ := rr
                  dsimp only at hfl hR8 ⊢
                  obtain ⟨A8, k8, rfl⟩ := Kd.R_slice hR8
                  have hP7 := HO7.out.le
                  have HO8 := Aside0.mk (HO7.out.go hF8)
                  have HPB8 := Aside0.mk (hF8.blk HPB7.out id)
                  obtain ⟨Ar, cr, hcr, hcalls⟩ := ojoin_calls HO8.out.rows HZ.out (by omega) ha0 ha1 (A := A8) (c := k8) (f := rm) (Kd.R_reads' hR8).2.2 hfl (fun v ad hv hA e => by
                    have h1 := rows_ok HO8.out.rows (i := a.toNat) (by omega) hv ad.block e
                    have h2 := Kd.R_base hR8 ad.block (by rw [hA]; rfl)
                    omega)
                  obtain ⟨hfj, hzj⟩ := falses_join HZ.out ha0 ha1 (f := rm) hfl
                  have HCALL := Aside0.mk hcalls
                  have HZ9 := Aside0.mk hzj
                  rw [hfl]
                  clear hcalls hzj hR8 hF8 hfl HO7 HPB7 z1 hwr hP7
                  generalize F'.set a.toNat (joinL (rd_L7 F' a) rm G.kinds.length) = F1 at HCALL HZ9 hfj
                  generalize someL (rd_L7 F' a) rm G.kinds.length = b1 at HCALL hfj
                  cases b1 with
                  | false =>
                    have hk9 : falses F1 + (if sm = true then 1 else 0) ≤ gk - 1 := by
                      simp at hfj; omega
                    go_wp2_with (fail)
                    refine (HCALL.out _ (Fr.refl _ _)).mono ?_
                    rintro e W9 ⟨rfl, hS9, hF9⟩
                    have HO9 := Aside0.mk (HO8.out.next (Fr.refl _ _) hF9 hS9)
                    have HPB9 := Aside0.mk (hF9.blk HPB8.out (by omega))
                    clear HCALL hS9 hF9 HO8 HPB8 hcr HZ hk1 hfj
                    cases em with
                    | false =>
                      go_wp2_with (fail)
                      exact ⟨⟨t + 1, sm, F1, by go_num, rfl, HTL.out, hk9, HO9, HZ9, HPB9⟩, by have := HTL.out; simp [intOf]; omega⟩
                    | true =>
                      obtain ⟨Aa, ca, Al, cl, b2, F2, hca, hcl, hZ2, hf2, hcalls⟩ := ojoin2_calls HO9.out.rows HZ9.out (by omega) ha0 ha1 hlf0 hlf1
                      have HCALL := Aside0.mk hcalls
                      have HZ3 := Aside0.mk hZ2
                      have z0 := (blk_cell HPB9.out 0).trans (show _ = some (Value.int .i64 pr.f0) from rfl)
                      clear hcalls hZ2 HZ9
                      cases b2 with
                      | false =>
                        have hk3 : falses F2 + (if sm = true then 1 else 0) ≤ gk - 1 := Nat.le_trans (Nat.add_le_add_right (show falses F2 ≤ falses F1 by simpa using hf2) _) hk9
                        go_wp2_with (fail)
                        go_region_held3 (fun w' => w'.cell? ⟨q, 0, none⟩ = some (.int .i64 pr.f0) ∧ w'.cell? ⟨gb, a.toNat, none⟩ = some (.slice Aa G.kinds.length ca) ∧ w'.cell? ⟨gb, pr.f0.toNat, none⟩ = some (.slice Al G.kinds.length cl)) (go_keep)
                          (first | (go_at_call 67; refine (HCALL.out _ (Fr.refl (fun _ => False) W9).drew).mono ?_; rintro e W10 ⟨rfl, hS10, hF10⟩; have HO10 := Aside0.mk (HO9.out.next (Fr.refl (fun _ => False) W9).drew hF10 hS10); have u0 := hF10.cell (((Fr.refl (fun _ => False) W9).drew).cell z0 id) (by simp; omega); have u1 := hF10.cell (((Fr.refl (fun _ => False) W9).drew).cell hca id) (by simp); have u2 := hF10.cell (((Fr.refl (fun _ => False) W9).drew).cell hcl id) (by simp); have HPB10 := Aside0.mk (hF10.blk (((Fr.refl (fun _ => False) W9).drew).blk HPB9.out id) (by omega)); clear hS10 hF10))
                        go_wp2_with (fail)
                        exact ⟨⟨t + 1, sm, F2, by go_num, rfl, HTL.out, hk3, HO10, HZ3, HPB10⟩, by have := HTL.out; simp [intOf]; omega⟩
                      | true =>
                        have hk3 : falses F2 + (if true = true then 1 else 0) ≤ gk - 1 := by
                          rw [if_pos rfl] at hf2 ⊢
                          split at hk9 <;> omega
                        go_wp2_with (fail)
                        refine wp_region_held_drew (S := fun w' => w'.cell? ⟨q, 0, none⟩ = some (.int .i64 pr.f0) ∧ w'.cell? ⟨gb, a.toNat, none⟩ = some (.slice Aa G.kinds.length ca) ∧ w'.cell? ⟨gb, pr.f0.toNat, none⟩ = some (.slice Al G.kinds.length cl)) (by kernel_rfl) ⟨by simp only [World.cell?_drew]; exact z0, by simp only [World.cell?_drew]; exact hca, by simp only [World.cell?_drew]; exact hcl⟩ (fun hHeld => ?_)
                        refine wpAnyH_take (i := 0) (oi := ?of0) (v := ?vf0) ?hof0 (by kernel_rfl) (by kernel_rfl) (by kernel_rfl) ?hqf0 ?hyf0 (by assumption) ?restf0
                        case hof0 => (simp only [List.getElem?_toArray, List.getElem?_cons_zero]; rfl)
                        case hqf0 => exact fun _ _ _ h => h
                        case hyf0 => (refine Or.inl ⟨by rfl, ?_⟩; intro w0 hSw; (try dsimp only at hSw); go_simp; try with_reducible rfl)
                        try simp only [Act.put, List.setIfInBounds_toArray, List.set_cons_zero, List.set_cons_succ]
                        refine wpAnyH_take (i := 1) (oi := ?of1) (v := ?vf1) ?hof1 (by kernel_rfl) (by kernel_rfl) (by kernel_rfl) ?hqf1 ?hyf1 (by assumption) ?restf1
                        case hof1 => (simp only [List.getElem?_toArray, List.getElem?_cons_succ, List.getElem?_cons_zero]; rfl)
                        case hqf1 => exact fun _ _ _ h => h
                        case hyf1 => (refine Or.inl ⟨by rfl, ?_⟩; intro w0 hSw; (try dsimp only at hSw); go_simp; try with_reducible rfl)
                        try simp only [Act.put, List.setIfInBounds_toArray, List.set_cons_zero, List.set_cons_succ]
                        refine wpAnyH_take (i := 2) (oi := ?of2) (v := ?vf2) ?hof2 (by kernel_rfl) (by kernel_rfl) (by kernel_rfl) ?hqf2 ?hyf2 (by assumption) ?restf2
                        case hof2 => (simp only [List.getElem?_toArray, List.getElem?_cons_succ, List.getElem?_cons_zero]; rfl)
                        case hqf2 => exact fun _ _ _ h => h
                        case hyf2 => (refine Or.inl ⟨by rfl, ?_⟩; intro w0 hSw; (try dsimp only at hSw); go_simp; try with_reducible rfl)
                        try simp only [Act.put, List.setIfInBounds_toArray, List.set_cons_zero, List.set_cons_succ]
                        refine wpAnyH_take (i := 3) (oi := ?of3) (v := ?vf3) ?hof3 (by kernel_rfl) (by kernel_rfl) (by kernel_rfl) ?hqf3 ?hyf3 (by assumption) ?restf3
                        case hof3 => (simp only [List.getElem?_toArray, List.getElem?_cons_succ, List.getElem?_cons_zero]; rfl)
                        case hqf3 => exact fun _ _ _ h => h
                        case hyf3 => (refine Or.inl ⟨by rfl, ?_⟩; intro w0 hSw; (try dsimp only at hSw); go_simp; try with_reducible rfl)
                        try simp only [Act.put, List.setIfInBounds_toArray, List.set_cons_zero, List.set_cons_succ]
                        refine wpAnyH_take (i := 4) (oi := ?of4) (v := ?vf4) ?hof4 (by kernel_rfl) (by kernel_rfl) (by kernel_rfl) ?hqf4 ?hyf4 (by assumption) ?restf4
                        case hof4 => (simp only [List.getElem?_toArray, List.getElem?_cons_succ, List.getElem?_cons_zero]; rfl)
                        case hqf4 => exact fun _ _ _ h => h
                        case hyf4 => (refine Or.inl ⟨by rfl, ?_⟩; intro w0 hSw; (try dsimp only at hSw); go_simp; try with_reducible rfl)
                        try simp only [Act.put, List.setIfInBounds_toArray, List.set_cons_zero, List.set_cons_succ]
                        refine wpAnyH_take (i := 5) (oi := ?of5) (v := ?vf5) ?hof5 (by kernel_rfl) (by kernel_rfl) (by kernel_rfl) ?hqf5 ?hyf5 (by assumption) ?restf5
                        case hof5 => (simp only [List.getElem?_toArray, List.getElem?_cons_succ, List.getElem?_cons_zero]; rfl)
                        case hqf5 => exact fun _ _ _ h => h
                        case hyf5 => (refine Or.inl ⟨by rfl, ?_⟩; intro w0 hSw; (try dsimp only at hSw); go_simp; try with_reducible rfl)
                        try simp only [Act.put, List.setIfInBounds_toArray, List.set_cons_zero, List.set_cons_succ]
                        refine wpAnyH_take (i := 6) (oi := ?of6) (v := ?vf6) ?hof6 (by kernel_rfl) (by kernel_rfl) (by kernel_rfl) ?hqf6 ?hyf6 (by assumption) ?restf6
                        case hof6 => (simp only [List.getElem?_toArray, List.getElem?_cons_succ, List.getElem?_cons_zero]; rfl)
                        case hqf6 => exact fun _ _ _ h => h
                        case hyf6 => (refine Or.inl ⟨by rfl, ?_⟩; intro w0 hSw; (try dsimp only at hSw); go_simp; try with_reducible rfl)
                        try simp only [Act.put, List.setIfInBounds_toArray, List.set_cons_zero, List.set_cons_succ]
                        refine wpAnyH_take (i := 7) (oi := ?of7) (v := ?vf7) ?hof7 (by kernel_rfl) (by kernel_rfl) (by kernel_rfl) ?hqf7 ?hyf7 (by assumption) ?restf7
                        case hof7 => (simp only [List.getElem?_toArray, List.getElem?_cons_succ, List.getElem?_cons_zero]; rfl)
                        case hqf7 => exact fun _ _ _ h => h
                        case hyf7 => (refine Or.inl ⟨by rfl, ?_⟩; intro w0 hSw; (try dsimp only at hSw); go_simp; try with_reducible rfl)
                        try simp only [Act.put, List.setIfInBounds_toArray, List.set_cons_zero, List.set_cons_succ]
                        refine wpAnyH_take (i := 8) (oi := ?of8) (v := ?vf8) ?hof8 (by kernel_rfl) (by kernel_rfl) (by kernel_rfl) ?hqf8 ?hyf8 (by assumption) ?restf8
                        case hof8 => (simp only [List.getElem?_toArray, List.getElem?_cons_succ, List.getElem?_cons_zero]; rfl)
                        case hqf8 => exact fun _ _ _ h => h
                        case hyf8 => (refine Or.inl ⟨by rfl, ?_⟩; intro w0 hSw; (try dsimp only at hSw); go_simp; try with_reducible rfl)
                        try simp only [Act.put, List.setIfInBounds_toArray, List.set_cons_zero, List.set_cons_succ]
                        refine wpAnyH_ready (rs := [9]) (by kernel_rfl) (by simp) ?_
                        refine AllReadyH.cons (o := ?of9) ?hof9 ?hsf9 AllReadyH.nil
                        case hof9 => (simp only [List.getElem?_toArray, List.getElem?_cons_succ, List.getElem?_cons_zero]; rfl)
                        intro K hK
                        go_simp
                        refine (HCALL.out _ (Fr.refl (fun _ => False) W9).drew).mono ?_
                        rintro e W10 ⟨rfl, hS10, hF10⟩
                        have HO10 := Aside0.mk (HO9.out.next (Fr.refl (fun _ => False) W9).drew hF10 hS10)
                        have u0 := hF10.cell (((Fr.refl (fun _ => False) W9).drew).cell z0 id) (by simp; omega)
                        have u1 := hF10.cell (((Fr.refl (fun _ => False) W9).drew).cell hca id) (by simp)
                        have u2 := hF10.cell (((Fr.refl (fun _ => False) W9).drew).cell hcl id) (by simp)
                        have HPB10 := Aside0.mk (hF10.blk (((Fr.refl (fun _ => False) W9).drew).blk HPB9.out id) (by omega))
                        clear hS10 hF10
                        dsimp only
                        refine hK.out _ _ ⟨u0, u1, u2⟩ (fun hHeld => ?_)
                        clear hK K
                        try simp only [Act.put, List.setIfInBounds_toArray, List.set_cons_zero, List.set_cons_succ]
                        refine wpAnyH_take (i := 10) (oi := ?of10) (v := ?vf10) ?hof10 (by kernel_rfl) (by kernel_rfl) (by kernel_rfl) ?hqf10 ?hyf10 (by assumption) ?restf10
                        case hof10 => (simp only [List.getElem?_toArray, List.getElem?_cons_succ, List.getElem?_cons_zero]; rfl)
                        case hqf10 => exact fun _ _ _ h => h
                        case hyf10 => (refine Or.inl ⟨by rfl, ?_⟩; intro w0 hSw; (try dsimp only at hSw); go_simp; try with_reducible rfl)
                        try simp only [Act.put, List.setIfInBounds_toArray, List.set_cons_zero, List.set_cons_succ]
                        refine wpAnyH_take (i := 11) (oi := ?of11) (v := undef) ?hof11 (by kernel_rfl) (by kernel_rfl) (by kernel_rfl) ?hqf11 ?hyf11 (by assumption) ?restf11
                        case hof11 => (simp only [List.getElem?_toArray, List.getElem?_cons_succ, List.getElem?_cons_zero]; rfl)
                        case hqf11 => exact fun _ _ _ h => h
                        case hyf11 => exact Or.inr ⟨by rfl, rfl⟩
                        try simp only [Act.put, List.setIfInBounds_toArray, List.set_cons_zero, List.set_cons_succ]
                        refine wpAnyH_take (i := 12) (oi := ?of12) (v := ?vf12) ?hof12 (by kernel_rfl) (by kernel_rfl) (by kernel_rfl) ?hqf12 ?hyf12 (by assumption) ?restf12
                        case hof12 => (simp only [List.getElem?_toArray, List.getElem?_cons_succ, List.getElem?_cons_zero]; rfl)
                        case hqf12 => exact fun _ _ _ h => h
                        case hyf12 => (refine Or.inl ⟨by rfl, ?_⟩; intro w0 hSw; (try dsimp only at hSw); go_simp; try with_reducible rfl)
                        try simp only [Act.put, List.setIfInBounds_toArray, List.set_cons_zero, List.set_cons_succ]
                        refine wpAnyH_take (i := 13) (oi := ?of13) (v := ?vf13) ?hof13 (by kernel_rfl) (by kernel_rfl) (by kernel_rfl) ?hqf13 ?hyf13 (by assumption) ?restf13
                        case hof13 => (simp only [List.getElem?_toArray, List.getElem?_cons_succ, List.getElem?_cons_zero]; rfl)
                        case hqf13 => exact fun _ _ _ h => h
                        case hyf13 => (refine Or.inl ⟨by rfl, ?_⟩; intro w0 hSw; (try dsimp only at hSw); go_simp; try with_reducible rfl)
                        try simp only [Act.put, List.setIfInBounds_toArray, List.set_cons_zero, List.set_cons_succ]
                        refine wpAnyH_done (by kernel_rfl) ?_ _
                        go_wp2_with (fail)
                        exact ⟨⟨t + 1, true, F2, by go_num, rfl, HTL.out, hk3, HO10, HZ3, HPB10⟩, by have := HTL.out; simp [intOf]; omega⟩
                  | true =>
                    have hk9 : falses F1 + (if true = true then 1 else 0) ≤ gk - 1 := by
                      rw [if_pos rfl] at hfj ⊢; split at hk1 <;> omega
                    go_wp2_with (fail)
                    refine (HCALL.out _ (Fr.refl _ _)).mono ?_
                    rintro e W9 ⟨rfl, hS9, hF9⟩
                    have HO9 := Aside0.mk (HO8.out.next (Fr.refl _ _) hF9 hS9)
                    have HPB9 := Aside0.mk (hF9.blk HPB8.out (by omega))
                    clear HCALL hS9 hF9 HO8 HPB8 hcr HZ hk1 hfj
                    cases em with
                    | false =>
                      go_wp2_with (fail)
                      exact ⟨⟨t + 1, true, F1, by go_num, rfl, HTL.out, hk9, HO9, HZ9, HPB9⟩, by have := HTL.out; simp [intOf]; omega⟩
                    | true =>
                      obtain ⟨Aa, ca, Al, cl, b2, F2, hca, hcl, hZ2, hf2, hcalls⟩ := ojoin2_calls HO9.out.rows HZ9.out (by omega) ha0 ha1 hlf0 hlf1
                      have HCALL := Aside0.mk hcalls
                      have HZ3 := Aside0.mk hZ2
                      have z0 := (blk_cell HPB9.out 0).trans (show _ = some (Value.int .i64 pr.f0) from rfl)
                      clear hcalls hZ2 HZ9
                      cases b2 with
                      | false =>
                        have hk3 : falses F2 + (if true = true then 1 else 0) ≤ gk - 1 := Nat.le_trans (Nat.add_le_add_right (show falses F2 ≤ falses F1 by simpa using hf2) _) hk9
                        go_wp2_with (fail)
                        go_region_held3 (fun w' => w'.cell? ⟨q, 0, none⟩ = some (.int .i64 pr.f0) ∧ w'.cell? ⟨gb, a.toNat, none⟩ = some (.slice Aa G.kinds.length ca) ∧ w'.cell? ⟨gb, pr.f0.toNat, none⟩ = some (.slice Al G.kinds.length cl)) (go_keep)
                          (first | (go_at_call 67; refine (HCALL.out _ (Fr.refl (fun _ => False) W9).drew).mono ?_; rintro e W10 ⟨rfl, hS10, hF10⟩; have HO10 := Aside0.mk (HO9.out.next (Fr.refl (fun _ => False) W9).drew hF10 hS10); have u0 := hF10.cell (((Fr.refl (fun _ => False) W9).drew).cell z0 id) (by simp; omega); have u1 := hF10.cell (((Fr.refl (fun _ => False) W9).drew).cell hca id) (by simp); have u2 := hF10.cell (((Fr.refl (fun _ => False) W9).drew).cell hcl id) (by simp); have HPB10 := Aside0.mk (hF10.blk (((Fr.refl (fun _ => False) W9).drew).blk HPB9.out id) (by omega)); clear hS10 hF10))
                        go_wp2_with (fail)
                        exact ⟨⟨t + 1, true, F2, by go_num, rfl, HTL.out, hk3, HO10, HZ3, HPB10⟩, by have := HTL.out; simp [intOf]; omega⟩
                      | true =>
                        have hk3 : falses F2 + (if true = true then 1 else 0) ≤ gk - 1 := by
                          rw [if_pos rfl] at hf2 ⊢
                          split at hk9 <;> omega
                        go_wp2_with (fail)
                        refine wp_region_held_drew (S := fun w' => w'.cell? ⟨q, 0, none⟩ = some (.int .i64 pr.f0) ∧ w'.cell? ⟨gb, a.toNat, none⟩ = some (.slice Aa G.kinds.length ca) ∧ w'.cell? ⟨gb, pr.f0.toNat, none⟩ = some (.slice Al G.kinds.length cl)) (by kernel_rfl) ⟨by simp only [World.cell?_drew]; exact z0, by simp only [World.cell?_drew]; exact hca, by simp only [World.cell?_drew]; exact hcl⟩ (fun hHeld => ?_)
                        refine wpAnyH_take (i := 0) (oi := ?ot0) (v := ?vt0) ?hot0 (by kernel_rfl) (by kernel_rfl) (by kernel_rfl) ?hqt0 ?hyt0 (by assumption) ?restt0
                        case hot0 => (simp only [List.getElem?_toArray, List.getElem?_cons_zero]; rfl)
                        case hqt0 => exact fun _ _ _ h => h
                        case hyt0 => (refine Or.inl ⟨by rfl, ?_⟩; intro w0 hSw; (try dsimp only at hSw); go_simp; try with_reducible rfl)
                        try simp only [Act.put, List.setIfInBounds_toArray, List.set_cons_zero, List.set_cons_succ]
                        refine wpAnyH_take (i := 1) (oi := ?ot1) (v := ?vt1) ?hot1 (by kernel_rfl) (by kernel_rfl) (by kernel_rfl) ?hqt1 ?hyt1 (by assumption) ?restt1
                        case hot1 => (simp only [List.getElem?_toArray, List.getElem?_cons_succ, List.getElem?_cons_zero]; rfl)
                        case hqt1 => exact fun _ _ _ h => h
                        case hyt1 => (refine Or.inl ⟨by rfl, ?_⟩; intro w0 hSw; (try dsimp only at hSw); go_simp; try with_reducible rfl)
                        try simp only [Act.put, List.setIfInBounds_toArray, List.set_cons_zero, List.set_cons_succ]
                        refine wpAnyH_take (i := 2) (oi := ?ot2) (v := ?vt2) ?hot2 (by kernel_rfl) (by kernel_rfl) (by kernel_rfl) ?hqt2 ?hyt2 (by assumption) ?restt2
                        case hot2 => (simp only [List.getElem?_toArray, List.getElem?_cons_succ, List.getElem?_cons_zero]; rfl)
                        case hqt2 => exact fun _ _ _ h => h
                        case hyt2 => (refine Or.inl ⟨by rfl, ?_⟩; intro w0 hSw; (try dsimp only at hSw); go_simp; try with_reducible rfl)
                        try simp only [Act.put, List.setIfInBounds_toArray, List.set_cons_zero, List.set_cons_succ]
                        refine wpAnyH_take (i := 3) (oi := ?ot3) (v := ?vt3) ?hot3 (by kernel_rfl) (by kernel_rfl) (by kernel_rfl) ?hqt3 ?hyt3 (by assumption) ?restt3
                        case hot3 => (simp only [List.getElem?_toArray, List.getElem?_cons_succ, List.getElem?_cons_zero]; rfl)
                        case hqt3 => exact fun _ _ _ h => h
                        case hyt3 => (refine Or.inl ⟨by rfl, ?_⟩; intro w0 hSw; (try dsimp only at hSw); go_simp; try with_reducible rfl)
                        try simp only [Act.put, List.setIfInBounds_toArray, List.set_cons_zero, List.set_cons_succ]
                        refine wpAnyH_take (i := 4) (oi := ?ot4) (v := ?vt4) ?hot4 (by kernel_rfl) (by kernel_rfl) (by kernel_rfl) ?hqt4 ?hyt4 (by assumption) ?restt4
                        case hot4 => (simp only [List.getElem?_toArray, List.getElem?_cons_succ, List.getElem?_cons_zero]; rfl)
                        case hqt4 => exact fun _ _ _ h => h
                        case hyt4 => (refine Or.inl ⟨by rfl, ?_⟩; intro w0 hSw; (try dsimp only at hSw); go_simp; try with_reducible rfl)
                        try simp only [Act.put, List.setIfInBounds_toArray, List.set_cons_zero, List.set_cons_succ]
                        refine wpAnyH_take (i := 5) (oi := ?ot5) (v := ?vt5) ?hot5 (by kernel_rfl) (by kernel_rfl) (by kernel_rfl) ?hqt5 ?hyt5 (by assumption) ?restt5
                        case hot5 => (simp only [List.getElem?_toArray, List.getElem?_cons_succ, List.getElem?_cons_zero]; rfl)
                        case hqt5 => exact fun _ _ _ h => h
                        case hyt5 => (refine Or.inl ⟨by rfl, ?_⟩; intro w0 hSw; (try dsimp only at hSw); go_simp; try with_reducible rfl)
                        try simp only [Act.put, List.setIfInBounds_toArray, List.set_cons_zero, List.set_cons_succ]
                        refine wpAnyH_take (i := 6) (oi := ?ot6) (v := ?vt6) ?hot6 (by kernel_rfl) (by kernel_rfl) (by kernel_rfl) ?hqt6 ?hyt6 (by assumption) ?restt6
                        case hot6 => (simp only [List.getElem?_toArray, List.getElem?_cons_succ, List.getElem?_cons_zero]; rfl)
                        case hqt6 => exact fun _ _ _ h => h
                        case hyt6 => (refine Or.inl ⟨by rfl, ?_⟩; intro w0 hSw; (try dsimp only at hSw); go_simp; try with_reducible rfl)
                        try simp only [Act.put, List.setIfInBounds_toArray, List.set_cons_zero, List.set_cons_succ]
                        refine wpAnyH_take (i := 7) (oi := ?ot7) (v := ?vt7) ?hot7 (by kernel_rfl) (by kernel_rfl) (by kernel_rfl) ?hqt7 ?hyt7 (by assumption) ?restt7
                        case hot7 => (simp only [List.getElem?_toArray, List.getElem?_cons_succ, List.getElem?_cons_zero]; rfl)
                        case hqt7 => exact fun _ _ _ h => h
                        case hyt7 => (refine Or.inl ⟨by rfl, ?_⟩; intro w0 hSw; (try dsimp only at hSw); go_simp; try with_reducible rfl)
                        try simp only [Act.put, List.setIfInBounds_toArray, List.set_cons_zero, List.set_cons_succ]
                        refine wpAnyH_take (i := 8) (oi := ?ot8) (v := ?vt8) ?hot8 (by kernel_rfl) (by kernel_rfl) (by kernel_rfl) ?hqt8 ?hyt8 (by assumption) ?restt8
                        case hot8 => (simp only [List.getElem?_toArray, List.getElem?_cons_succ, List.getElem?_cons_zero]; rfl)
                        case hqt8 => exact fun _ _ _ h => h
                        case hyt8 => (refine Or.inl ⟨by rfl, ?_⟩; intro w0 hSw; (try dsimp only at hSw); go_simp; try with_reducible rfl)
                        try simp only [Act.put, List.setIfInBounds_toArray, List.set_cons_zero, List.set_cons_succ]
                        refine wpAnyH_ready (rs := [9]) (by kernel_rfl) (by simp) ?_
                        refine AllReadyH.cons (o := ?ot9) ?hot9 ?hst9 AllReadyH.nil
                        case hot9 => (simp only [List.getElem?_toArray, List.getElem?_cons_succ, List.getElem?_cons_zero]; rfl)
                        intro K hK
                        go_simp
                        refine (HCALL.out _ (Fr.refl (fun _ => False) W9).drew).mono ?_
                        rintro e W10 ⟨rfl, hS10, hF10⟩
                        have HO10 := Aside0.mk (HO9.out.next (Fr.refl (fun _ => False) W9).drew hF10 hS10)
                        have u0 := hF10.cell (((Fr.refl (fun _ => False) W9).drew).cell z0 id) (by simp; omega)
                        have u1 := hF10.cell (((Fr.refl (fun _ => False) W9).drew).cell hca id) (by simp)
                        have u2 := hF10.cell (((Fr.refl (fun _ => False) W9).drew).cell hcl id) (by simp)
                        have HPB10 := Aside0.mk (hF10.blk (((Fr.refl (fun _ => False) W9).drew).blk HPB9.out id) (by omega))
                        clear hS10 hF10
                        dsimp only
                        refine hK.out _ _ ⟨u0, u1, u2⟩ (fun hHeld => ?_)
                        clear hK K
                        try simp only [Act.put, List.setIfInBounds_toArray, List.set_cons_zero, List.set_cons_succ]
                        refine wpAnyH_take (i := 10) (oi := ?ot10) (v := ?vt10) ?hot10 (by kernel_rfl) (by kernel_rfl) (by kernel_rfl) ?hqt10 ?hyt10 (by assumption) ?restt10
                        case hot10 => (simp only [List.getElem?_toArray, List.getElem?_cons_succ, List.getElem?_cons_zero]; rfl)
                        case hqt10 => exact fun _ _ _ h => h
                        case hyt10 => (refine Or.inl ⟨by rfl, ?_⟩; intro w0 hSw; (try dsimp only at hSw); go_simp; try with_reducible rfl)
                        try simp only [Act.put, List.setIfInBounds_toArray, List.set_cons_zero, List.set_cons_succ]
                        refine wpAnyH_take (i := 11) (oi := ?ot11) (v := undef) ?hot11 (by kernel_rfl) (by kernel_rfl) (by kernel_rfl) ?hqt11 ?hyt11 (by assumption) ?restt11
                        case hot11 => (simp only [List.getElem?_toArray, List.getElem?_cons_succ, List.getElem?_cons_zero]; rfl)
                        case hqt11 => exact fun _ _ _ h => h
                        case hyt11 => exact Or.inr ⟨by rfl, rfl⟩
                        try simp only [Act.put, List.setIfInBounds_toArray, List.set_cons_zero, List.set_cons_succ]
                        refine wpAnyH_take (i := 12) (oi := ?ot12) (v := ?vt12) ?hot12 (by kernel_rfl) (by kernel_rfl) (by kernel_rfl) ?hqt12 ?hyt12 (by assumption) ?restt12
                        case hot12 => (simp only [List.getElem?_toArray, List.getElem?_cons_succ, List.getElem?_cons_zero]; rfl)
                        case hqt12 => exact fun _ _ _ h => h
                        case hyt12 => (refine Or.inl ⟨by rfl, ?_⟩; intro w0 hSw; (try dsimp only at hSw); go_simp; try with_reducible rfl)
                        try simp only [Act.put, List.setIfInBounds_toArray, List.set_cons_zero, List.set_cons_succ]
                        refine wpAnyH_take (i := 13) (oi := ?ot13) (v := ?vt13) ?hot13 (by kernel_rfl) (by kernel_rfl) (by kernel_rfl) ?hqt13 ?hyt13 (by assumption) ?restt13
                        case hot13 => (simp only [List.getElem?_toArray, List.getElem?_cons_succ, List.getElem?_cons_zero]; rfl)
                        case hqt13 => exact fun _ _ _ h => h
                        case hyt13 => (refine Or.inl ⟨by rfl, ?_⟩; intro w0 hSw; (try dsimp only at hSw); go_simp; try with_reducible rfl)
                        try simp only [Act.put, List.setIfInBounds_toArray, List.set_cons_zero, List.set_cons_succ]
                        refine wpAnyH_done (by kernel_rfl) ?_ _
                        go_wp2_with (fail)
                        exact ⟨⟨t + 1, true, F2, by go_num, rfl, HTL.out, hk3, HO10, HZ3, HPB10⟩, by have := HTL.out; simp [intOf]; omega⟩
              · obtain rfl : t = pr.f1.length := by omega
                go_wp2_with (fail)
                exact ⟨⟨i + 1, sm, F', by go_num, rfl, HLT.out, hk1, HO, HZ⟩, by have := HLT.out; simp [intOf]; omega⟩
        · obtain rfl : i = G.prods.length := by omega
          go_wp2_with (fail)
          go_roundg (gk - 1)
          case measure => omega
          case rel => exact ⟨sm, F', rfl, hk1, HO, HZ⟩
end Go.Proofs.Ytdngobjcdajogaa.Gram
