/-
The marked numbers: gram.list, gram.lists.
-/
import Derived.Test.YtdngobjcdajogaaMAL
import Derived.Test.YtdngobjcdajogaaMAN
import Derived.Test.YtdngobjcdajogaaMAR
import Derived.Test.YtdngobjcdajogaaMAT
import Derived.Test.YtdngobjcdajogaaMAS
set_option linter.unusedSimpArgs false
set_option linter.unusedVariables false
namespace Go.Proofs.Ytdngobjcdajogaa.Gram
open Go.RowKit Go.Proofs.YtdngobjcdajogaaW.PrintWords Go.Proofs.YtdngobjcdajogaaW.PrintLast Go.Proofs.YtdngobjcdajogaaW.PrintMore Go.Proofs.Ytdngobjcdajogaa.Fr Go.Proofs.Ytdngobjcdajogaa.PGramFirsts Go.Proofs.Ytdngobjcdajogaa.TextSet
def listI : Nat → List Bool → List Int
 | _, [] => []
 | i, b :: l => if b then (i : Int) :: listI (i + 1) l else listI (i + 1) l
theorem list_l (l : List Bool) (hl : l.length ≤ 4611686018427387904) : ∀ (n i : Nat) (x : List Int), i + n = l.length → x.length + n ≤ 17592186044416 → gram_list.l0 (n + 1) x l (l.length : Int) (i : Int) = some (x ++ listI i (l.drop i))
 | 0, i, x, h, _ => by
  obtain rfl : i = l.length := by omega
  simp [gram_list.l0, listI]
 | n + 1, i, x, h, hx => by
  have hi : i < l.length := by omega
  have e : l.drop i = rdOf false l (i : Int) :: l.drop (i + 1) := by
   rw [List.drop_eq_getElem_cons hi]; simp [rdOf, List.getD_eq_getElem?_getD, hi]
  have hw : wrap64 ((i : Int) + 1) = ((i + 1 : Nat) : Int) := by simp only [wrap64]; omega
  rw [gram_list.l0, if_pos (by omega), if_pos (by omega), if_pos (by omega), e, hw]; have ih := fun x hx => list_l l hl n (i + 1) x (by omega) hx
  cases hb : rdOf false l (i : Int) with
  | true =>
   rw [if_pos rfl, if_pos (by omega), ih _ (by simp only [List.length_append, List.length_cons, List.length_nil]; omega)]; simp [listI]
  | false =>
   rw [if_neg (by decide), ih _ (by omega)]; simp [listI]
theorem list_some (l : List Bool) (hl : l.length ≤ 1000000) : gram_list.f (l.length + 1) l = some (listI 0 l) := by
 have := list_l l (by omega) l.length 0 [] (by omega) (by simp only [List.length_nil]; omega); simpa [gram_list.f] using this
theorem list_mono {l : List Bool} {r : List Int} {k m : Nat} (h : gram_list.f k l = some r) (hm : k ≤ m) : gram_list.f m l = some r := by
 induction hm with
 | refl => exact h
 | step _ ih => exact gram_list.mono _ _ _ ih
theorem lists_l (s : List (List Bool)) (K : Nat) (hK : ∀ m, m ∈ s → m.length = K) (hK2 : K ≤ 1000000) (hs : s.length ≤ 1000000) : ∀ (n i : Nat) (x : List (List Int)), i + n = s.length → x.length + n ≤ 1000000 → gram_lists.l0 (n + K + 2) x s (s.length : Int) (i : Int) = some (x ++ (s.drop i).map (listI 0))
 | 0, i, x, h, _ => by
  obtain rfl : i = s.length := by omega
  rw [show 0 + K + 2 = (K + 1) + 1 by omega]; simp [gram_lists.l0]
 | n + 1, i, x, h, hx => by
  have hi : i < s.length := by omega
  have e : s.drop i = rd_L7 s (i : Int) :: s.drop (i + 1) := by
   rw [List.drop_eq_getElem_cons hi]; simp [rd_L7, List.getD_eq_getElem?_getD, hi]
  have hm : rd_L7 s (i : Int) ∈ s := by
   simp [rd_L7, List.getD_eq_getElem?_getD, hi]
  have hw : wrap64 ((i : Int) + 1) = ((i + 1 : Nat) : Int) := by simp only [wrap64]; omega
  rw [show n + 1 + K + 2 = (n + K + 2) + 1 by omega, gram_lists.l0, if_pos (by omega), if_pos (by omega), if_pos (by omega), list_mono (list_some _ (by rw [hK _ hm]; exact hK2)) (by rw [hK _ hm]; omega), Option.bind_some, if_pos (by omega), hw, lists_l s K hK hK2 hs n (i + 1) _ (by omega) (by simp only [List.length_append, List.length_cons, List.length_nil]; omega), e]; simp
theorem lists_some (s : List (List Bool)) (K : Nat) (hK : ∀ m, m ∈ s → m.length = K) (hK2 : K ≤ 1000000) (hs : s.length ≤ 1000000) : gram_lists.f (s.length + K + 2) s = some (s.map (listI 0)) := by
 have := lists_l s K hK hK2 hs s.length 0 [] (by omega) (by simp only [List.length_nil]; omega); simpa [gram_lists.f] using this
theorem lists_calls (w : World) (A : Option Addr) (c K : Nat) (s : List (List Bool)) (h : Kd.C kR w A s.length s) (hc : s.length ≤ c) (hK : ∀ m, m ∈ s → m.length = K) (hK2 : K ≤ 1000000) (hs : s.length ≤ 1000000) :
 Calls Try.prog 41 #[.slice A s.length c] w fun e w' => ∃ v, e = .returned v ∧ Kd.S (Kd.slice 3 kI) 27 w' w.heap.size (fun _ => True) v (s.map (listI 0)) ∧ Fr (fun _ => False) w w' := by
 refine (gram_lists.calls _ A c s _ w h hc (lists_some s K hK hK2 hs)).mono ?_; rintro e w' ⟨v, rfl, hR, hB⟩; exact ⟨v, rfl, hR, Fr.of_below hB⟩
theorem results_cell_row_tmp {P : Program} {fn : Func} {p u : Tmp} {ty : TypeId} (h : fn.results = #[.cell p ty, .tmp u]) (tmps : Array Value) (w : World) (g : Nat) (t : TypeId) (cs : Array Value) (fr : Nat × Nat) (d : TypeDesc)
 (hp : tmps.getD p undef = .pointer (some ⟨g, 0, none⟩)) (hg : w.heap[g]? = some (.cells cs t fr))
 (hu : P.underlying ty = some d) (hd : (match d with | .struct _ | .array _ _ => true | _ => false) = true) (hi : (P.info? ty).map (·.size) = some cs.size) :
 (results fn tmps).run P w = .ok (.tuple #[.agg cs, tmps.getD u undef]) w := by
 have hp' : tmps[p]?.getD undef = .pointer (some ⟨g, 0, none⟩) := by simpa using hp
 simp [results, h, hp', asAddr, run_loadVar_row w g t ty cs fr d hg hu hd hi]
theorem blk_set {W : World} {q t j : Nat} {cur : Array Value} (h : W.heap[q]? = some (.cells cur t (0, 0))) (v : Value) : (W.setCell ⟨q, j, none⟩ v).heap[q]? = some (.cells (cur.setIfInBounds j v) t (0, 0)) := by
 rw [setCell_eq_setRow W q j cur t (0, 0) v h]; exact setRow_heap _ _ _ _ _ _ h
theorem fr_row {S : Nat → Prop} {w w1 : World} (h : Fr S w w1) {q : Nat} (cs : Array Value) (hq : q < w.heap.size → S q) : Fr S w (w1.setRow q cs) :=
 h.trans (T := fun i => i = q) ⟨rfl, rfl, rfl, by rw [setRow_size]; exact Nat.le_refl _, fun i _ hn => setRow_other w1 q i cs hn⟩ (fun i hi e => by subst e; exact hq hi)
set_option maxRecDepth 100000 in
theorem look1_calls (W : World) (a0 a2 a3 a4 : Int) (s : ByteArray) (B1 B6 : Option Addr) (n1 n6 d1 d6 : Nat) :
 Calls Try.prog 40 #[.agg #[.int .i64 a0, .slice B1 n1 d1, .int .i64 a2, .int .i64 a3, .int .i64 a4, .string s, .slice B6 n6 d6]] W fun e w' => e = .returned (.bool true) ∧ Fr (fun _ => False) W w' := by
 have hu2 := Try.underlying57; have HF := Aside0.mk ((Fr.refl (fun _ => False) W).alloc (.cells #[.int .i64 a0, .slice B1 n1 d1, .int .i64 a2, .int .i64 a3, .int .i64 a4, .string s, .slice B6 n6 d6] 57)); go_enter Try.func40, Try.ntmps40
 go_wp2_with (fail)
 go_ret
 exact ⟨rfl, HF.out⟩
theorem slices6 (A B C D E F : Option Addr) (a b c d e f a' b' c' d' e' f' : Nat) : (#[.slice A a a', .slice B b b', .slice C c c', .slice D d d', .slice E e e', .slice F f f'] : Array Value).all (·.oneCell') = true := by simp [Value.oneCell']
abbrev nil6 : Array Value := #[.slice none 0 0, .slice none 0 0, .slice none 0 0, .slice none 0 0, .slice none 0 0, .slice none 0 0]
theorem info6 : (Try.prog.info? 39).map (·.size) = some 6 := by kernel_rfl
structure LK (Wk W : World) (G : Gr) (q nc pc cc : Nat) (NA PA CA : Option Addr) (cl : List Bool) : Prop where
 fr : Fr (fun _ => False) Wk W
 lo : Wk.heap.size ≤ q
 box : W.heap[q]? = some (.cells #[.slice NA G.rules.length nc, .slice PA G.rules.length pc, .slice none 0 0, .slice CA G.rules.length cc, .slice none 0 0, .slice none 0 0] 39 (0, 0))
 pro : kB.R 4 W Wk.heap.size (fun _ => True) (.slice PA G.rules.length pc) (closedL G true)
 cyc : kB.R 4 W Wk.heap.size (fun _ => True) (.slice CA G.rules.length cc) cl
 cl : cl.length = G.rules.length
def LKPost (Wk : World) (G : Gr) (NA : Option Addr) (nc : Nat) (s : Value) (W : World) : Prop := ∃ q pc cc PA CA cl, s = .pointer (some ⟨q, 0, none⟩) ∧ LK Wk W G q nc pc cc NA PA CA cl
theorem R_row {W : World} {B q : Nat} {ok : Nat → Prop} {v : Value} {l : List Bool} {old : Array Value} (h : kB.R 4 W B ok v l) (hq : W.heap[q]? = some (.cells old 39 (0, 0))) (cs : Array Value) : kB.R 4 (W.setRow q cs) B ok v l := by
 have h2 := Kd.R_types h hq (by decide); exact Kd.R_mono (Kd.R_step h2 (fun k hk _ => setRow_other W q k cs hk.2)) (fun _ hk => hk.1)
theorem S_row {W : World} {B q : Nat} {ok : Nat → Prop} {v : Value} {l : List (List Int)} {old : Array Value} (h : Kd.S kN 27 W B ok v l) (hq : W.heap[q]? = some (.cells old 39 (0, 0))) (cs : Array Value) : Kd.S kN 27 (W.setRow q cs) B ok v l := by
 have h2 := Kd.S_types h hq (by decide); exact Kd.S_mono (Kd.S_step h2 (fun k hk _ => setRow_other W q k cs hk.2)) (fun _ hk => hk.1)
theorem LKPost.of {Wk W : World} {G : Gr} {q nc pc cc : Nat} {NA PA CA : Option Addr} {cl : List Bool} (hF : Fr (fun _ => False) Wk W) (hlo : Wk.heap.size ≤ q) (hb : W.heap[q]? = some (.cells nil6 39 (0, 0))) (hP : kB.R 4 W Wk.heap.size (fun _ => True) (.slice PA G.rules.length pc) (closedL G true)) (hC : kB.R 4 W Wk.heap.size (fun _ => True) (.slice CA G.rules.length cc) cl) (hl : cl.length = G.rules.length) :
 LKPost Wk G NA nc (.pointer (some ⟨q, 0, none⟩)) (W.setRow q #[.slice NA G.rules.length nc, .slice PA G.rules.length pc, .slice none 0 0, .slice CA G.rules.length cc, .slice none 0 0, .slice none 0 0]) :=
 ⟨q, pc, cc, PA, CA, cl, rfl, fr_row hF _ (fun h => by omega), hlo, setRow_heap _ _ _ _ _ _ hb, R_row hP hb _, R_row hC hb _, hl⟩
def LookPost (w : World) (G : Gr) (e : Ending) (w' : World) : Prop :=
 (¬ CheckOk G ∧ e = .returned (.tuple #[.agg nil6, .int .i64 130])) ∨
 (CheckOk G ∧ ∃ NA nc PA pc RA rc CA cc FV WV cl Fo, e = .returned (.tuple #[.agg #[.slice NA G.rules.length nc, .slice PA G.rules.length pc, .slice RA G.rules.length rc, .slice CA G.rules.length cc, FV, WV], .int .i64 0]) ∧
  kB.R 4 w' w.heap.size (fun _ => True) (.slice NA G.rules.length nc) (closedL G false) ∧ kB.R 4 w' w.heap.size (fun _ => True) (.slice PA G.rules.length pc) (closedL G true) ∧ kB.R 4 w' w.heap.size (fun _ => True) (.slice RA G.rules.length rc) (reachL G (fun _ => true)) ∧ kB.R 4 w' w.heap.size (fun _ => True) (.slice CA G.rules.length cc) cl ∧ cl.length = G.rules.length ∧
  Kd.S kN 27 w' w.heap.size (fun _ => True) FV ((firstL G).map (listI 0)) ∧ Kd.S kN 27 w' w.heap.size (fun _ => True) WV (Fo.map (listI 0)) ∧ Sized G Fo)
set_option maxHeartbeats 8000000 in
set_option maxRecDepth 100000 in
theorem look_calls (w : World) (G : Gr) (A0 A1 A2 A3 : Option Addr) (c0 c1 c2 c3 : Nat) (h : GAt w G A0 A1 A2 A3 c0 c1 c2 c3) :
 Calls Try.prog 13 #[.agg #[.slice A0 G.kinds.length c0, .slice A1 G.precs.length c1, .slice A2 G.rules.length c2, .slice A3 G.prods.length c3, .int .i64 G.start]] w fun e w' => LookPost w G e w' ∧ Fr (fun _ => False) w w' := by
 have hu := Try.underlying26; have hu2 := Try.underlying79; have hu3 := Try.underlying39; have HG := Aside0.mk h; have HW := Aside0.mk ((show ChkW w (w.alloc (.cells #[.slice A0 G.kinds.length c0, .slice A1 G.precs.length c1, .slice A2 G.rules.length c2, .slice A3 G.prods.length c3, .int .i64 G.start] 26)) G A0 A1 A2 A3 c0 c1 c2 c3 from ⟨blk_new w _, (Fr.refl _ w).alloc _⟩).go ((Fr.refl (fun _ => False) _).alloc (.cells nil6 39))); have HB2 := Aside0.mk (blk_new (w.alloc (.cells #[.slice A0 G.kinds.length c0, .slice A1 G.precs.length c1, .slice A2 G.rules.length c2, .slice A3 G.prods.length c3, .int .i64 G.start] 26)) (.cells nil6 39)); have hws : (w.alloc (.cells #[.slice A0 G.kinds.length c0, .slice A1 G.precs.length c1, .slice A2 G.rules.length c2, .slice A3 G.prods.length c3, .int .i64 G.start] 26)).heap.size = w.heap.size + 1 := by simp only [World.size_alloc]
 rw [hws] at HB2; clear h hws; go_enter Try.func13, Try.ntmps13
 go_upto_region 1 with fail
 generalize (w.alloc (.cells #[.slice A0 G.kinds.length c0, .slice A1 G.precs.length c1, .slice A2 G.rules.length c2, .slice A3 G.prods.length c3, .int .i64 G.start] 26)).alloc (.cells nil6 39) = W0 at HW HB2 ⊢; obtain ⟨e0, e1, e2, e3, e4⟩ := HW.out.cells; go_wp2_with (fail)
 refine (check_calls _ G A0 A1 A2 A3 c0 c1 c2 c3 (HG.out.go HW.out.fr)).mono ?_; rintro e W1 ⟨⟨r, rfl, hr1, hr2⟩, hF⟩; have HW1 := Aside0.mk (HW.out.go hF); have HB1 := Aside0.mk (hF.blk HB2.out id); clear HW hF HB2 e0 e1 e2 e3 e4; by_cases hr0 : r = 0
 · subst hr0
   have HC := Aside0.mk (hr1.1 rfl); have hR1 := (base_true HC.out.base).2.1; have hR2 := (base_true HC.out.base).2.2.1; clear hr1 hr2; obtain ⟨e0, e1, e2, e3, e4⟩ := HW1.out.cells; go_wp2_with (fail)
   refine (know_calls _ G A0 A1 A2 A3 c0 c1 c2 c3 (HG.out.go HW1.out.fr) HC.out).mono ?_; rintro e W2 ⟨p, mid, NA, FA, nc, fc, rfl, hK⟩; have HK := Aside0.mk hK; have HG1 := Aside0.mk (HG.out.go HW1.out.fr); have HW2 := Aside0.mk (HW1.out.go hK.chk.fr); have HB2 := Aside0.mk (hK.chk.fr.blk HB1.out id); have h12 := hK.chk.fr.size; have hb1 : w.heap.size + 1 < W1.heap.size := blk_lt HB1.out; clear HW1 HB1 hK e0 e1 e2 e3 e4; have hc5 : ∀ W, Fr (fun _ => False) W2 W → W.cell? ⟨p, 5, none⟩ = some (.slice NA G.rules.length nc) := fun W hF => (blk_cell (hF.blk HK.out.box id) 5).trans rfl
   have HC5 := Aside0.mk hc5; have HCL := Aside0.mk (fun W (hF : Fr (fun _ => False) W2 W) => closed_calls W G A0 A1 A2 A3 c0 c1 c2 c3 (HG.out.go (HW2.out.fr.trans hF (fun _ _ h => h))) HC.out true); have HCY := Aside0.mk (fun W (hF : Fr (fun _ => False) W2 W) => by
    have := cyclic_calls W G A0 A1 A2 A3 c0 c1 c2 c3 (HG.out.go (HW2.out.fr.trans hF (fun _ _ h => h))) HC.out NA nc (closedL G false) (Kd.C_below (Kd.R_reads' HK.out.null).2.2 hF.to_below) (by have := (Kd.R_reads' HK.out.null).2.1; rw [closedL_length]; exact this) (closedL_length G false); rw [closedL_length] at this; exact this)
   clear hc5; go_upto_region 5 with fail
   go_cut [6] (fun s6 wx => LKPost W2 G NA nc s6 wx)
   case first =>
    obtain ⟨e0, e1, e2, e3, e4⟩ := HW2.out.cells; have k5 := HC5.out W2 (Fr.refl _ _); refine wp_region_last_drew (S := fun w' => w'.cell? ⟨w.heap.size, 0, none⟩ = some (.slice A0 G.kinds.length c0) ∧ w'.cell? ⟨w.heap.size, 1, none⟩ = some (.slice A1 G.precs.length c1) ∧ w'.cell? ⟨w.heap.size, 2, none⟩ = some (.slice A2 G.rules.length c2) ∧ w'.cell? ⟨w.heap.size, 3, none⟩ = some (.slice A3 G.prods.length c3) ∧ w'.cell? ⟨w.heap.size, 4, none⟩ = some (.int .i64 G.start) ∧ w'.cell? ⟨p, 5, none⟩ = some (.slice NA G.rules.length nc)) (ds := [14]) (by kernel_rfl) (by obtain ⟨i0, i1, i2, i3, i4⟩ := (HW2.out.go ((Fr.refl (fun _ => False) W2).drew)).cells; exact ⟨i0, i1, i2, i3, i4, HC5.out _ ((Fr.refl (fun _ => False) W2).drew)⟩) (fun hHeld => ?_); have HFd := Aside0.mk ((Fr.refl (fun _ => False) W2).drew); generalize W2.drew = Wd at HFd hHeld ⊢; clear e0 e1 e2 e3 e4 k5; refine tk 0 ?_; refine tk 1 ?_; refine tk 2 ?_; refine tk 3 ?_; refine tk 4 ?_; refine tk 6 ?_; refine tk 7 ?_; refine tk 8 ?_; refine tk 9 ?_; refine tk 10 ?_; refine on2 5 13 ?p1 ?q1
    case p1 =>
     intro K hK; go_simp
     refine (HCL.out _ HFd.out).mono ?_; rintro e W3 ⟨vp, rfl, hRp, hFp⟩; obtain ⟨PA, pc, rfl⟩ := Kd.R_slice hRp; have HFW3 := Aside0.mk (HFd.out.trans hFp (fun _ _ h => h)); have HPW3 := Aside0.mk (Kd.R_lower hRp (show W2.heap.size ≤ _ from Nat.le_trans HFd.out.size (Nat.le_succ _))); rw [closedL_length] at HPW3; clear hRp hFp; dsimp only
     try rw [closedL_length]
     refine hK.out _ _ (by obtain ⟨i0, i1, i2, i3, i4⟩ := (HW2.out.go HFW3.out).cells; exact ⟨i0, i1, i2, i3, i4, HC5.out _ HFW3.out⟩) (fun hHeld => ?_); clear hK K; try simp only [Act.put, List.setIfInBounds_toArray, List.set_cons_zero, List.set_cons_succ]
     refine on2 11 13 ?p2 ?q2
     case p2 =>
      intro K hK; go_simp
      refine (HCY.out _ HFW3.out).mono ?_; rintro e W4 ⟨vc, cl, rfl, hRc, hcl, hFc⟩; obtain ⟨CA, cc, rfl⟩ := Kd.R_slice hRc; have HFW4 := Aside0.mk (HFW3.out.trans hFc (fun _ _ h => h)); have HYW4 := Aside0.mk (Kd.R_lower hRc (show W2.heap.size ≤ _ from Nat.le_trans HFW3.out.size (Nat.le_succ _))); have HPW4 := Aside0.mk (Kd.R_below HPW3.out hFc.to_below); have HLL := Aside0.mk hcl; rw [hcl] at HYW4; clear hRc hFc; dsimp only
      try rw [hcl]
      clear hcl; refine hK.out _ _ (by obtain ⟨i0, i1, i2, i3, i4⟩ := (HW2.out.go HFW4.out).cells; exact ⟨i0, i1, i2, i3, i4, HC5.out _ HFW4.out⟩) (fun hHeld => ?_); clear hK K; try simp only [Act.put, List.setIfInBounds_toArray, List.set_cons_zero, List.set_cons_succ]
      refine tk 12 ?_; refine on 13 ?_; intro K hK; go_simp
      have HFW5 := Aside0.mk (HFW4.out.alloc (.cells nil6 39)); have HQ := Aside0.mk (blk_new W4 (.cells nil6 39)); have hlo := HFW4.out.size; have HPW5 := Aside0.mk (Kd.R_alloc HPW4.out (.cells nil6 39)); have HYW5 := Aside0.mk (Kd.R_alloc HYW4.out (.cells nil6 39)); refine hK.out _ _ (by obtain ⟨i0, i1, i2, i3, i4⟩ := (HW2.out.go HFW5.out).cells; exact ⟨i0, i1, i2, i3, i4, HC5.out _ HFW5.out⟩) (fun hHeld => ?_); clear hK K; try simp only [Act.put, List.setIfInBounds_toArray, List.set_cons_zero, List.set_cons_succ]
      generalize W4.alloc (.cells nil6 39) = W5 at HFW5 HQ hHeld HPW5 HYW5 ⊢; generalize W4.heap.size = q at HQ hlo ⊢; refine onl 14 (fun K hK => ?_); rw [if_pos (by rfl)]; refine wp_store_row 39 (.tmp 6) (.tmp 27) rfl _ _ rfl rfl 39 nil6 HQ.out info6 rfl (slices6 _ _ _ _ _ _ _ _ _ _ _ _ _ _ _ _ _ _) ?_; refine hK.out _ _ ?_; clear hK K; try simp only [Act.put]
      refine dn ?_; have HE := Aside0.mk (LKPost.of (NA := NA) (nc := nc) HFW5.out hlo HQ.out HPW5.out HYW5.out HLL.out); go_wp2_with (fail)
      go_meet
      exact HE.out
     case q2 =>
      intro K hK; go_simp
      have HFW4 := Aside0.mk (HFW3.out.alloc (.cells nil6 39)); have HQ := Aside0.mk (blk_new W3 (.cells nil6 39)); have hlo := HFW3.out.size; have HPW4 := Aside0.mk (Kd.R_alloc HPW3.out (.cells nil6 39)); refine hK.out _ _ (by obtain ⟨i0, i1, i2, i3, i4⟩ := (HW2.out.go HFW4.out).cells; exact ⟨i0, i1, i2, i3, i4, HC5.out _ HFW4.out⟩) (fun hHeld => ?_); clear hK K; try simp only [Act.put, List.setIfInBounds_toArray, List.set_cons_zero, List.set_cons_succ]
      generalize W3.alloc (.cells nil6 39) = W4 at HFW4 HQ hHeld HPW4 ⊢; generalize W3.heap.size = q at HQ hlo ⊢; refine on 11 ?_; intro K hK; go_simp
      refine (HCY.out _ HFW4.out).mono ?_; rintro e W5 ⟨vc, cl, rfl, hRc, hcl, hFc⟩; obtain ⟨CA, cc, rfl⟩ := Kd.R_slice hRc; have HFW5 := Aside0.mk (HFW4.out.trans hFc (fun _ _ h => h)); have HYW5 := Aside0.mk (Kd.R_lower hRc (show W2.heap.size ≤ _ from Nat.le_trans HFW4.out.size (Nat.le_succ _))); have HPW5 := Aside0.mk (Kd.R_below HPW4.out hFc.to_below); have HLL := Aside0.mk hcl; have HQW5 := Aside0.mk (hFc.blk HQ.out id); clear HQ; have HQ := HQW5; rw [hcl] at HYW5; clear hRc hFc; dsimp only
      try rw [hcl]
      clear hcl; refine hK.out _ _ (by obtain ⟨i0, i1, i2, i3, i4⟩ := (HW2.out.go HFW5.out).cells; exact ⟨i0, i1, i2, i3, i4, HC5.out _ HFW5.out⟩) (fun hHeld => ?_); clear hK K; try simp only [Act.put, List.setIfInBounds_toArray, List.set_cons_zero, List.set_cons_succ]
      refine tk 12 ?_; refine onl 14 (fun K hK => ?_); rw [if_pos (by rfl)]; refine wp_store_row 39 (.tmp 6) (.tmp 27) rfl _ _ rfl rfl 39 nil6 HQ.out info6 rfl (slices6 _ _ _ _ _ _ _ _ _ _ _ _ _ _ _ _ _ _) ?_; refine hK.out _ _ ?_; clear hK K; try simp only [Act.put]
      refine dn ?_; have HE := Aside0.mk (LKPost.of (NA := NA) (nc := nc) HFW5.out hlo HQ.out HPW5.out HYW5.out HLL.out); go_wp2_with (fail)
      go_meet
      exact HE.out
    case q1 =>
     intro K hK; go_simp
     have HFW3 := Aside0.mk (HFd.out.alloc (.cells nil6 39)); have HQ := Aside0.mk (blk_new Wd (.cells nil6 39)); have hlo := HFd.out.size; refine hK.out _ _ (by obtain ⟨i0, i1, i2, i3, i4⟩ := (HW2.out.go HFW3.out).cells; exact ⟨i0, i1, i2, i3, i4, HC5.out _ HFW3.out⟩) (fun hHeld => ?_); clear hK K; try simp only [Act.put, List.setIfInBounds_toArray, List.set_cons_zero, List.set_cons_succ]
     generalize Wd.alloc (.cells nil6 39) = W3 at HFW3 HQ hHeld  ⊢; generalize Wd.heap.size = q at HQ hlo ⊢; refine on 5 ?_; intro K hK; go_simp
     refine (HCL.out _ HFW3.out).mono ?_; rintro e W4 ⟨vp, rfl, hRp, hFp⟩; obtain ⟨PA, pc, rfl⟩ := Kd.R_slice hRp; have HFW4 := Aside0.mk (HFW3.out.trans hFp (fun _ _ h => h)); have HPW4 := Aside0.mk (Kd.R_lower hRp (show W2.heap.size ≤ _ from Nat.le_trans HFW3.out.size (Nat.le_succ _))); have HQW4 := Aside0.mk (hFp.blk HQ.out id); clear HQ; have HQ := HQW4; rw [closedL_length] at HPW4; clear hRp hFp; dsimp only
     try rw [closedL_length]
     refine hK.out _ _ (by obtain ⟨i0, i1, i2, i3, i4⟩ := (HW2.out.go HFW4.out).cells; exact ⟨i0, i1, i2, i3, i4, HC5.out _ HFW4.out⟩) (fun hHeld => ?_); clear hK K; try simp only [Act.put, List.setIfInBounds_toArray, List.set_cons_zero, List.set_cons_succ]
     refine on 11 ?_; intro K hK; go_simp
     refine (HCY.out _ HFW4.out).mono ?_; rintro e W5 ⟨vc, cl, rfl, hRc, hcl, hFc⟩; obtain ⟨CA, cc, rfl⟩ := Kd.R_slice hRc; have HFW5 := Aside0.mk (HFW4.out.trans hFc (fun _ _ h => h)); have HYW5 := Aside0.mk (Kd.R_lower hRc (show W2.heap.size ≤ _ from Nat.le_trans HFW4.out.size (Nat.le_succ _))); have HPW5 := Aside0.mk (Kd.R_below HPW4.out hFc.to_below); have HLL := Aside0.mk hcl; have HQW5 := Aside0.mk (hFc.blk HQ.out id); clear HQ; have HQ := HQW5; rw [hcl] at HYW5; clear hRc hFc; dsimp only
     try rw [hcl]
     clear hcl; refine hK.out _ _ (by obtain ⟨i0, i1, i2, i3, i4⟩ := (HW2.out.go HFW5.out).cells; exact ⟨i0, i1, i2, i3, i4, HC5.out _ HFW5.out⟩) (fun hHeld => ?_); clear hK K; try simp only [Act.put, List.setIfInBounds_toArray, List.set_cons_zero, List.set_cons_succ]
     refine tk 12 ?_; refine onl 14 (fun K hK => ?_); rw [if_pos (by rfl)]; refine wp_store_row 39 (.tmp 6) (.tmp 27) rfl _ _ rfl rfl 39 nil6 HQ.out info6 rfl (slices6 _ _ _ _ _ _ _ _ _ _ _ _ _ _ _ _ _ _) ?_; refine hK.out _ _ ?_; clear hK K; try simp only [Act.put]
     refine dn ?_; have HE := Aside0.mk (LKPost.of (NA := NA) (nc := nc) HFW5.out hlo HQ.out HPW5.out HYW5.out HLL.out); go_wp2_with (fail)
     go_meet
     exact HE.out
   case rest =>
    obtain ⟨q, pc, cc, PA, CA, cl, rfl, hL⟩ := hcut; have HL := Aside0.mk hL; clear hL HCL HCY; obtain ⟨e0, e1, e2, e3, e4⟩ := (HW2.out.go HL.out.fr).cells; go_upto_region 7 with fail
    refine (reached_calls _ G A0 A1 A2 A3 c0 c1 c2 c3 (HG.out.go (HW2.out.fr.trans HL.out.fr (fun _ _ h => h))) HC.out (fun _ => true) (fun i W B1 B6 d1 d6 _ _ _ _ _ => look1_calls W _ _ _ _ _ _ _ _ _ _ _)).mono ?_; rintro e W6 ⟨vr, rfl, hRr, hFr⟩; obtain ⟨RA, rc, rfl⟩ := Kd.R_slice hRr; rw [reachL_length] at hRr ⊢; have hbox := hFr.blk HL.out.box id; have q2 := (blk_cell hbox 2).trans (show _ = some (Value.slice none 0 0) from rfl); have f2 := blk_frozen hbox 2; have hlo := HL.out.lo; have hsz := HL.out.fr.size; have HF7 := Aside0.mk ((HL.out.fr.trans hFr (fun _ _ h => h)).set (g := q) (o := 2) (.slice RA G.rules.length rc) (fun h => by omega)); have HB7 := Aside0.mk (blk_set (j := 2) hbox (.slice RA G.rules.length rc)); have HP7 := Aside0.mk (Kd.R_set (Kd.R_below HL.out.pro hFr.to_below) hbox (by decide) 2 (.slice RA G.rules.length rc)); have HY7 := Aside0.mk (Kd.R_set (Kd.R_below HL.out.cyc hFr.to_below) hbox (by decide) 2 (.slice RA G.rules.length rc)); have HR7 := Aside0.mk (Kd.R_set (Kd.R_lower hRr (show W2.heap.size ≤ _ from Nat.le_trans hsz (Nat.le_succ _))) hbox (by decide) 2 (.slice RA G.rules.length rc)); have HCLL := Aside0.mk HL.out.cl; go_upto_region 7 with fail
    clear q2 f2 e0 e1 e2 e3 e4 hbox hRr hFr HL hsz; generalize W6.setCell ⟨q, 2, none⟩ (.slice RA G.rules.length rc) = W7 at HF7 HB7 HP7 HY7 HR7 ⊢; have HB7 : Aside0 (W7.heap[q]? = some (.cells #[.slice NA G.rules.length nc, .slice PA G.rules.length pc, .slice RA G.rules.length rc, .slice CA G.rules.length cc, .slice none 0 0, .slice none 0 0] 39 (0, 0))) := HB7; have q2 := (blk_cell HB7.out 2).trans (show _ = some (Value.slice RA G.rules.length rc) from rfl); have k6 : W7.cell? ⟨p, 6, none⟩ = some (.slice FA G.rules.length fc) := (HK.out.go HF7.out).cells.2; have hmem : ∀ F : List (List Bool), Sized G F → ∀ m, m ∈ F → m.length = G.kinds.length := fun F hF m hm => by
     obtain ⟨j, hj, rfl⟩ := List.getElem_of_mem hm; have := hF.fk j (by rw [← hF.fl]; exact hj); simpa [rd_L7, List.getD_eq_getElem?_getD, hj] using this
    have HMEM := Aside0.mk hmem; have hKm := HC.out.kinds.max; clear hmem; go_wp2_with (fail)
    refine wp_region_last_drew (S := fun w' => w'.cell? ⟨p, 6, none⟩ = some (.slice FA G.rules.length fc) ∧ w'.cell? ⟨q, 2, none⟩ = some (.slice RA G.rules.length rc)) (ds := []) (by kernel_rfl) ⟨by simp only [World.cell?_drew]; exact k6, by simp only [World.cell?_drew]; exact q2⟩ (fun hHeld => ?_); refine tk 0 ?_; refine tk 1 ?_; refine tk 2 ?_; refine tk 3 ?_; refine tk 5 ?_; refine tk 6 ?_; refine tk 7 ?_; refine on 4 (fun K hK => ?_); go_simp
    have h4 := lists_calls W7.drew FA fc G.kinds.length (firstL G) (Kd.S_reads' (Kd.S_drew (HK.out.go HF7.out).first)).2.2 (by have := (Kd.S_reads' (HK.out.go HF7.out).first).2.1; rw [(firstL_sized G).fl]; exact this) (HMEM.out _ (firstL_sized G)) (by omega) (by rw [(firstL_sized G).fl]; omega); rw [(firstL_sized G).fl] at h4; refine h4.mono ?_; clear h4; rintro e W8 ⟨v8, rfl, hS8, hF8⟩; obtain ⟨VA, va, rfl⟩ := Kd.S_slice hS8; rw [show ((firstL G).map (listI 0)).length = G.rules.length by rw [List.length_map]; exact (firstL_sized G).fl] at hS8 ⊢; have HG8 := Aside0.mk (((Fr.refl (fun _ => False) W7).drew).trans hF8 (fun _ _ h => h)); have HF8 := Aside0.mk (HF7.out.trans HG8.out (fun _ _ h => h)); have HB8 := Aside0.mk (HG8.out.blk HB7.out id); have HS8 := Aside0.mk (Kd.S_lower hS8 (show W2.heap.size ≤ _ from HF7.out.size)); clear hS8 hF8; dsimp only
    refine hK.out _ _ ⟨(HK.out.go HF8.out).cells.2, (blk_cell HB8.out 2).trans rfl⟩ (fun hHeld => ?_); clear hK K; try simp only [Act.put, List.setIfInBounds_toArray, List.set_cons_zero, List.set_cons_succ]
    refine tk 10 ?_; refine on 8 (fun K hK => ?_); go_simp
    have h8 := follow_calls W8 p G A0 A1 A2 A3 NA FA RA c0 c1 c2 c3 nc fc rc (closedL G false) (reachL G (fun _ => true)) (firstL G) ((HK.out.go HF8.out).at HG1.out (closedL_length G false) (firstL_sized G)) HC.out (by have := (Kd.R_reads' (Kd.R_below HR7.out HG8.out.to_below)).2.2; exact this) (reachL_length G _); rw [reachL_length] at h8; refine h8.mono ?_; clear h8; rintro e W9 ⟨⟨v9, Fo, rfl, hS9, hZ9⟩, hF9⟩; obtain ⟨OA, oa, rfl⟩ := Kd.S_slice hS9; rw [hZ9.fl] at hS9 ⊢; have HG9 := Aside0.mk (HG8.out.trans hF9 (fun _ _ h => h)); have HF9 := Aside0.mk (HF7.out.trans HG9.out (fun _ _ h => h)); have HB9 := Aside0.mk (HG9.out.blk HB7.out id); have HS9 := Aside0.mk (Kd.S_below HS8.out hF9.to_below); have HO9 := Aside0.mk hS9; have HZ9 := Aside0.mk hZ9; clear hS9 hF9 hZ9; dsimp only
    refine hK.out _ _ ⟨(HK.out.go HF9.out).cells.2, (blk_cell HB9.out 2).trans rfl⟩ (fun hHeld => ?_); clear hK K; try simp only [Act.put, List.setIfInBounds_toArray, List.set_cons_zero, List.set_cons_succ]
    refine on 9 (fun K hK => ?_); go_simp
    have h9 := lists_calls W9 OA oa G.kinds.length Fo (by have := (Kd.S_reads' HO9.out).2.2; exact this) (by have := (Kd.S_reads' HO9.out).2.1; rw [HZ9.out.fl]; exact this) (HMEM.out _ HZ9.out) (by omega) (by rw [HZ9.out.fl]; omega); rw [HZ9.out.fl] at h9; refine h9.mono ?_; clear h9; rintro e W10 ⟨v10, rfl, hS10, hF10⟩; obtain ⟨UA, ua, rfl⟩ := Kd.S_slice hS10; rw [show (Fo.map (listI 0)).length = G.rules.length by rw [List.length_map]; exact HZ9.out.fl] at hS10 ⊢; have HG10 := Aside0.mk (HG9.out.trans hF10 (fun _ _ h => h)); have HF10 := Aside0.mk (HF7.out.trans HG10.out (fun _ _ h => h)); have HB10 := Aside0.mk (HG10.out.blk HB7.out id); have HS10 := Aside0.mk (Kd.S_below HS9.out hF10.to_below); have HU10 := Aside0.mk (Kd.S_lower hS10 (show W2.heap.size ≤ _ from HF9.out.size)); have q4 := (blk_cell HB10.out 4).trans (show _ = some (Value.slice none 0 0) from rfl); have f4 := blk_frozen HB10.out 4; clear hS10 hF10; dsimp only
    refine hK.out _ _ ⟨(HK.out.go HF10.out).cells.2, (blk_cell HB10.out 2).trans rfl⟩ (fun hHeld => ?_); clear hK K; try simp only [Act.put, List.setIfInBounds_toArray, List.set_cons_zero, List.set_cons_succ]
    refine on 11 (fun K hK => ?_); go_simp
    have HF11 := Aside0.mk (HF10.out.set (g := q) (o := 4) (.slice VA G.rules.length va) (fun h => by omega)); have HB11 := Aside0.mk (blk_set (j := 4) HB10.out (.slice VA G.rules.length va)); have HP11 := Aside0.mk (Kd.R_set (Kd.R_below HP7.out HG10.out.to_below) HB10.out (by decide) 4 (.slice VA G.rules.length va)); have HY11 := Aside0.mk (Kd.R_set (Kd.R_below HY7.out HG10.out.to_below) HB10.out (by decide) 4 (.slice VA G.rules.length va)); have HR11 := Aside0.mk (Kd.R_set (Kd.R_below HR7.out HG10.out.to_below) HB10.out (by decide) 4 (.slice VA G.rules.length va)); have HS11 := Aside0.mk (Kd.S_set HS10.out HB10.out (by decide) 4 (.slice VA G.rules.length va)); have HU11 := Aside0.mk (Kd.S_set HU10.out HB10.out (by decide) 4 (.slice VA G.rules.length va)); generalize W10.setCell ⟨q, 4, none⟩ (.slice VA G.rules.length va) = W11 at HF11 HB11 HP11 HY11 HR11 HS11 HU11 ⊢; have q5 := (blk_cell HB11.out 5).trans (show _ = some (Value.slice none 0 0) from rfl); have f5 := blk_frozen HB11.out 5; clear q4 f4; refine hK.out _ _ ⟨(HK.out.go HF11.out).cells.2, (blk_cell HB11.out 2).trans rfl⟩ (fun hHeld => ?_); clear hK K; try simp only [Act.put, List.setIfInBounds_toArray, List.set_cons_zero, List.set_cons_succ]
    refine tk 12 ?_; refine on 13 (fun K hK => ?_); go_simp
    have HF12 := Aside0.mk (HF11.out.set (g := q) (o := 5) (.slice UA G.rules.length ua) (fun h => by omega)); have HB12 := Aside0.mk (blk_set (j := 5) HB11.out (.slice UA G.rules.length ua)); have HP12 := Aside0.mk (Kd.R_set HP11.out HB11.out (by decide) 5 (.slice UA G.rules.length ua)); have HY12 := Aside0.mk (Kd.R_set HY11.out HB11.out (by decide) 5 (.slice UA G.rules.length ua)); have HR12 := Aside0.mk (Kd.R_set HR11.out HB11.out (by decide) 5 (.slice UA G.rules.length ua)); have HS12 := Aside0.mk (Kd.S_set HS11.out HB11.out (by decide) 5 (.slice UA G.rules.length ua)); have HU12 := Aside0.mk (Kd.S_set HU11.out HB11.out (by decide) 5 (.slice UA G.rules.length ua)); generalize W11.setCell ⟨q, 5, none⟩ (.slice UA G.rules.length ua) = W12 at HF12 HB12 HP12 HY12 HR12 HS12 HU12 ⊢; clear q5 f5; refine hK.out _ _ ⟨(HK.out.go HF12.out).cells.2, (blk_cell HB12.out 2).trans rfl⟩ (fun hHeld => ?_); clear hK K; try simp only [Act.put, List.setIfInBounds_toArray, List.set_cons_zero, List.set_cons_succ]
    refine dn ?_; have q0 := (blk_cell HB12.out 0).trans (show _ = some (Value.slice NA G.rules.length nc) from rfl); have q1 := (blk_cell HB12.out 1).trans (show _ = some (Value.slice PA G.rules.length pc) from rfl); have q3 := (blk_cell HB12.out 2).trans (show _ = some (Value.slice RA G.rules.length rc) from rfl); have q4 := (blk_cell HB12.out 3).trans (show _ = some (Value.slice CA G.rules.length cc) from rfl); have q5 := (blk_cell HB12.out 4).trans (show _ = some (Value.slice VA G.rules.length va) from rfl); have q6 := (blk_cell HB12.out 5).trans (show _ = some (Value.slice UA G.rules.length ua) from rfl); have HBR := Aside0.mk (HF12.out.blk HB2.out id); have HFE := Aside0.mk (fr_row (HW2.out.fr.trans HF12.out (fun _ _ h => h)) (q := w.heap.size + 1) #[.slice NA G.rules.length nc, .slice PA G.rules.length pc, .slice RA G.rules.length rc, .slice CA G.rules.length cc, .slice VA G.rules.length va, .slice UA G.rules.length ua] (fun h => by omega)); have HBE := Aside0.mk (setRow_heap W12 (w.heap.size + 1) nil6 #[.slice NA G.rules.length nc, .slice PA G.rules.length pc, .slice RA G.rules.length rc, .slice CA G.rules.length cc, .slice VA G.rules.length va, .slice UA G.rules.length ua] 39 (0, 0) HBR.out); have hbw : w.heap.size ≤ W2.heap.size := by omega
    have HN12 := Aside0.mk (Kd.R_mono (Kd.R_lower (HK.out.go HF12.out).null (show w.heap.size ≤ _ by omega)) (fun _ _ => trivial : ∀ k, _ → True)); have HPO := Aside0.mk (show LookPost w G (.returned (.tuple #[.agg #[.slice NA G.rules.length nc, .slice PA G.rules.length pc, .slice RA G.rules.length rc, .slice CA G.rules.length cc, .slice VA G.rules.length va, .slice UA G.rules.length ua], .int .i64 0])) (W12.setRow (w.heap.size + 1) #[.slice NA G.rules.length nc, .slice PA G.rules.length pc, .slice RA G.rules.length rc, .slice CA G.rules.length cc, .slice VA G.rules.length va, .slice UA G.rules.length ua]) from
     .inr ⟨HC.out, NA, nc, PA, pc, RA, rc, CA, cc, _, _, cl, Fo, rfl, R_row HN12.out HBR.out _, R_row (Kd.R_lower HP12.out hbw) HBR.out _, R_row (Kd.R_lower HR12.out hbw) HBR.out _, R_row (Kd.R_lower HY12.out hbw) HBR.out _, HCLL.out, S_row (Kd.S_lower HS12.out hbw) HBR.out _, S_row (Kd.S_lower HU12.out hbw) HBR.out _, HZ9.out⟩)
    clear HK HW2 HB2 HB7 HP7 HY7 HR7 HF7 k6 q2 HG8 HF8 HB8 HS8 HG9 HF9 HB9 HS9 HO9 HZ9 HG10 HF10 HB10 HS10 HU10 HF11 HB11 HP11 HY11 HR11 HS11 HU11 HP12 HY12 HR12 HS12 HU12 HN12; go_wp2_with (first | ((with_reducible refine gate_store (t := 39) (p := 2) (v := .tmp 43) rfl ?_); refine wpList_store_row rfl 39 (.tmp 2) (.tmp 43) rfl (w.heap.size + 1) #[.slice NA G.rules.length nc, .slice PA G.rules.length pc, .slice RA G.rules.length rc, .slice CA G.rules.length cc, .slice VA G.rules.length va, .slice UA G.rules.length ua] rfl rfl 39 nil6 HBR.out info6 rfl (slices6 _ _ _ _ _ _ _ _ _ _ _ _ _ _ _ _ _ _) ?_))
    (try simp only [Exit.inBlock, Exit.then])
    refine bodyPost_ret (v := .tuple #[.agg #[.slice NA G.rules.length nc, .slice PA G.rules.length pc, .slice RA G.rules.length rc, .slice CA G.rules.length cc, .slice VA G.rules.length va, .slice UA G.rules.length ua], .int .i64 0]) ?hr2 ?hd2 ?hR2
    case hr2 => exact (results_cell_row_tmp (p := 2) (u := 3) (ty := 39) (by rfl) _ _ (w.heap.size + 1) 39 #[.slice NA G.rules.length nc, .slice PA G.rules.length pc, .slice RA G.rules.length rc, .slice CA G.rules.length cc, .slice VA G.rules.length va, .slice UA G.rules.length ua] (0, 0) _ (by rfl) HBE.out hu3 (by rfl) info6).trans (by rfl)
    case hd2 => rfl
    exact ⟨HPO.out, HFE.out⟩
 · have HN := Aside0.mk (show ¬ CheckOk G from fun h => hr0 (hr1.2 h))
   obtain rfl : r = 130 := hr2.resolve_left hr0; clear hr1 hr2; have hFE : Fr (fun _ => False) w (W1.setRow (w.heap.size + 1) nil6) := fr_row HW1.out.fr _ (fun h => by omega); have HFE := Aside0.mk hFE; have HBE := Aside0.mk (setRow_heap W1 (w.heap.size + 1) nil6 nil6 39 (0, 0) HB1.out); clear hFE; go_wp2_with (first | ((with_reducible refine gate_store (t := 39) (p := 2) (v := .tmp 11) rfl ?_); refine wpList_store_row rfl 39 (.tmp 2) (.tmp 11) rfl (w.heap.size + 1) nil6 rfl rfl 39 nil6 HB1.out info6 rfl (slices6 _ _ _ _ _ _ _ _ _ _ _ _ _ _ _ _ _ _) ?_))
   (try simp only [Exit.inBlock, Exit.then])
   refine bodyPost_ret (v := .tuple #[.agg nil6, .int .i64 130]) ?hr ?hd ?hR
   case hr => exact (results_cell_row_tmp (p := 2) (u := 3) (ty := 39) (by rfl) _ _ (w.heap.size + 1) 39 nil6 (0, 0) _ (by rfl) HBE.out hu3 (by rfl) info6).trans (by rfl)
   case hd => rfl
   exact ⟨.inl ⟨HN.out, rfl⟩, HFE.out⟩
end Go.Proofs.Ytdngobjcdajogaa.Gram
