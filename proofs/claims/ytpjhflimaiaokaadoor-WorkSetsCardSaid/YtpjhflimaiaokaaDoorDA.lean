/-
One call of one of two sets, walked, at each place and of each kind.
-/
import Derived.Test.YtpjhflimaiaokaaDoorDE
import Derived.Deep.RegionHeld3
namespace Go.Proofs.YtpjhflimaiaokaaDoor.Does
open Go.RowKit Go.Proofs.YtpjhflimaiaokaaDoorW.PrintWords Go.Proofs.YtpjhflimaiaokaaDoorW.PrintLast Go.Proofs.YtpjhflimaiaokaaDoorW.PrintMore Go.Proofs.YtpjhflimaiaokaaDoor.Fr Go.Proofs.YtpjhflimaiaokaaDoor.Sets Go.Proofs.YtpjhflimaiaokaaDoor.SetW Go.Proofs.YtpjhflimaiaokaaDoor.RSet Go.Proofs.YtpjhflimaiaokaaDoor.Keys

set_option maxRecDepth 100000 in
set_option maxHeartbeats 4000000 in
theorem does_0_0 (w : World) (top ga gr : Nat) (k wh n : Int) (A : Option Addr) (c : Nat) (L lx ly : List Int) (D : Duo w top ga gr lx ly) (hsz : top ≤ w.heap.size) (hwh : bits BinOp.and IntKind.i64 wh 1 = 0) (hk : (wrap64 (k.tmod 9 + 9)).tmod 9 = 0)
    (hC : kI.C w A L.length L) (hlt : ∀ ad, A = some ad → 0 < L.length → ad.block < top) (hT : Tab w) :
    Calls Tryd.prog 19 #[.pointer (some ⟨ga, 0, none⟩), .pointer (some ⟨gr, 0, none⟩), .agg #[.int .i64 k, .int .i64 wh, .int .i64 n, .slice A L.length c]] w (DoPost w top ga gr) := by
  obtain ⟨g, h, s, t, v, u, T0, ha, hr⟩ := D.ex
  have T : Two w top g h s t v u lx ly lx ly := T0
  obtain ⟨A1, c1, rfl⟩ := Kd.R_slice T.rx
  obtain ⟨A2, c2, rfl⟩ := Kd.R_slice T.ry
  have hu := Tryd.underlying45
  have hu2 := Tryd.underlying38
  have hu3 := Tryd.underlying43
  have hu4 := Tryd.underlying40
  have hb := blk_new w (.cells #[.int .i64 k, .int .i64 wh, .int .i64 n, .slice A L.length c] 45)
  have hcb0 := (blk_cell hb 0).trans (show _ = some (Value.int .i64 k) from rfl)
  have hcb1 := (blk_cell hb 1).trans (show _ = some (Value.int .i64 wh) from rfl)
  have hcb2 := (blk_cell hb 2).trans (show _ = some (Value.int .i64 n) from rfl)
  have hcb3 := (blk_cell hb 3).trans (show _ = some (Value.slice A L.length c) from rfl)
  have hca := (blk_cell (blk_alloc ha (.cells #[.int .i64 k, .int .i64 wh, .int .i64 n, .slice A L.length c] 45)) 0).trans (show _ = some (Value.pointer (some ⟨g, 0, none⟩)) from rfl)
  have hcc := (blk_cell (blk_alloc ha (.cells #[.int .i64 k, .int .i64 wh, .int .i64 n, .slice A L.length c] 45)) 1).trans (show _ = some (Value.pointer (some ⟨h, 0, none⟩)) from rfl)
  have hra : ∀ X Y : Array Value, (((w.alloc (.cells #[.int .i64 k, .int .i64 wh, .int .i64 n, .slice A L.length c] 45)).alloc (.cells X 40)).alloc (.cells Y 40)).cell? ⟨gr, 0, none⟩ = some (.slice A1 lx.length c1) := fun X Y => (blk_cell (blk_alloc (blk_alloc (blk_alloc hr _) _) _) 0).trans rfl
  have hrc : ∀ X Y : Array Value, (((w.alloc (.cells #[.int .i64 k, .int .i64 wh, .int .i64 n, .slice A L.length c] 45)).alloc (.cells X 40)).alloc (.cells Y 40)).cell? ⟨gr, 1, none⟩ = some (.slice A2 ly.length c2) := fun X Y => (blk_cell (blk_alloc (blk_alloc (blk_alloc hr _) _) _) 1).trans rfl
  have hra2 : ∀ X : Array Value, ((w.alloc (.cells #[.int .i64 k, .int .i64 wh, .int .i64 n, .slice A L.length c] 45)).alloc (.cells X 40)).cell? ⟨gr, 0, none⟩ = some (.slice A1 lx.length c1) := fun X => (blk_cell (blk_alloc (blk_alloc hr _) _) 0).trans rfl
  have hrc2 : ∀ X : Array Value, ((w.alloc (.cells #[.int .i64 k, .int .i64 wh, .int .i64 n, .slice A L.length c] 45)).alloc (.cells X 40)).cell? ⟨gr, 1, none⟩ = some (.slice A2 ly.length c2) := fun X => (blk_cell (blk_alloc (blk_alloc hr _) _) 1).trans rfl
  have hra1 := (blk_cell (blk_alloc hr (.cells #[.int .i64 k, .int .i64 wh, .int .i64 n, .slice A L.length c] 45)) 0).trans (show _ = some (Value.slice A1 lx.length c1) from rfl)
  have hrc1 := (blk_cell (blk_alloc hr (.cells #[.int .i64 k, .int .i64 wh, .int .i64 n, .slice A L.length c] 45)) 1).trans (show _ = some (Value.slice A2 ly.length c2) from rfl)
  have HA := Aside0.mk ha
  have HR := Aside0.mk hr
  have HT := Aside0.mk T
  have HD := Aside0.mk D
  have HC := Aside0.mk hC
  have HLT := Aside0.mk hlt
  have HTAB := Aside0.mk hT
  clear ha hr hb T T0 D hC hlt hT
  go_enter Tryd.func19, Tryd.ntmps19
  go_wp2_with (fail)
  go_region
  all_goals go_wp2_with (fail)
  all_goals go_region
  all_goals clear hcb0 hcb1 hcb2 hcb3 hca hcc hra hrc hra1 hrc1 hra2 hrc2
  · have HE := Aside0.mk (Env.start w ga gr k wh n A c L (.slice A1 lx.length c1) (.slice A2 ly.length c2) HA.out HR.out)
    have hws := Env.size w k wh n A c L (.slice A1 lx.length c1) (.slice A2 ly.length c2)
    have HF := Aside0.mk (Env.frame w k wh n A c L (.slice A1 lx.length c1) (.slice A2 ly.length c2))
    generalize hW : Env.world w k wh n A c L (.slice A1 lx.length c1) (.slice A2 ly.length c2) = W at hws HF HE
    rw [show (((w.alloc (.cells #[.int .i64 k, .int .i64 wh, .int .i64 n, .slice A L.length c] 45)).alloc (.cells #[.slice A1 lx.length c1] 40)).alloc (.cells #[.slice A2 ly.length c2] 40)).drew.drew = W from hW]
    clear hW
    have HT1 := Aside0.mk (HT.out.fr HF.out)
    have he0 := (blk_cell HE.out.b 0).trans (show _ = some (Value.int .i64 k) from rfl)
    have he2 := (blk_cell HE.out.b 2).trans (show _ = some (Value.int .i64 n) from rfl)
    have he3 := (blk_cell HE.out.b 3).trans (show _ = some (Value.slice A L.length c) from rfl)
    have hep := (blk_cell HE.out.p 0).trans (show _ = some (Value.slice A1 lx.length c1) from rfl)
    have heq := (blk_cell HE.out.q 0).trans (show _ = some (Value.slice A2 ly.length c2) from rfl)
    have hlx : lx.length ≤ 1048576 := len_le HD.out.rl HD.out.nl
    have hly : ly.length ≤ 1048576 := len_le HD.out.rm HD.out.nm
    have hsz1 : top ≤ W.heap.size := by omega
    have HCW := Aside0.mk (HF.out.C (S := fun _ => False) 0 HC.out (fun _ _ _ => id))
    go_wp2_with (fail)
    refine (add_calls _ top g s lx L A c HT1.out.x hsz1 HD.out.rl HD.out.nl ⟨HCW.out, fun ad e hp => by have := HLT.out ad e hp; exact ⟨by have := HT1.out.gx; omega, fun e2 => by have := Kd.R_base HT1.out.x.row _ e2; omega, by omega⟩⟩).mono ?_
    rintro e W1 (⟨hn, l1, hinv, rfl, hST⟩ | ⟨hbad, rfl, hd⟩)
    · obtain ⟨s1, T2, hF2⟩ := HT1.out.turn hST
      have HE2 := Aside0.mk (HE.out.turn HT1.out.x hST)
      have HT2 := Aside0.mk T2
      have HF2 := Aside0.mk ((HF.out.mono (T := fun k => top ≤ k) (fun _ hf => hf.elim)).trans hF2 (fun _ _ h => h))
      have e3 := (blk_cell HE2.out.b 3).trans (show _ = some (Value.slice A L.length c) from rfl)
      have ep := (blk_cell HE2.out.p 0).trans (show _ = some (Value.slice A1 lx.length c1) from rfl)
      have HN := Aside0.mk hn
      have HI := Aside0.mk hinv
      have hl1 := hinv.len
      clear hST T2 hF2 hn hinv he0 he2 he3 hep heq
      go_wp2_with (fail)
      refine (radd_calls _ 0 _ lx L A c HT2.out.rx (Nat.zero_le _) HD.out.rl HD.out.nl (HF2.out.C (S := fun k => top ≤ k) 0 HC.out (fun ad e hp => by have := HLT.out ad e hp; omega)) HT2.out.fresh).mono ?_
      rintro e W2 ⟨v1, us1, hR, hF3, (⟨_, hinv2, rfl⟩ | ⟨⟨y, hy, hb⟩, _⟩)⟩
      · obtain rfl := add_same HI.out hinv2
        obtain ⟨A3, c3, rfl⟩ := Kd.R_slice hR
        have HT3 := Aside0.mk (HT2.out.ref hF3 hR)
        have HE3 := Aside0.mk (HE2.out.fr hF3)
        have HF3 := Aside0.mk (HF2.out.trans hF3 (fun _ _ hf => hf.elim))
        clear hR hF3 hinv2 e3 ep
        have HZ := Aside0.mk (blk_new W2 (.cells #[.slice A3 l1.length c3] 40))
        have HE9 := Aside0.mk (HE3.out.fr ((Fr.refl (fun _ => False) _).alloc (.cells #[.slice A3 l1.length c3] 40)))
        have HT9 := Aside0.mk ((HT3.out.fr ((Fr.refl (fun _ => False) _).alloc (.cells #[.slice A3 l1.length c3] 40))).fr (Fr.refl (fun _ => False) _).drew)
        have ez := (blk_cell HZ.out 0).trans (show _ = some (Value.slice A3 l1.length c3) from rfl)
        have er := (blk_cell HE9.out.r 0).trans (show _ = some (Value.slice A1 lx.length c1) from rfl)
        have ef := blk_frozen HE9.out.r 0
        have HD9 := Aside0.mk (Duo.put0 HT9.out (blk_drew HE9.out.a) (blk_drew HE9.out.r) (HI.out.rise) HD.out.rm (HI.out.num) HD.out.nm HD.out.ta HD.out.tr)
        have HF9 := Aside0.mk (((HF3.out.alloc (.cells #[.slice A3 l1.length c3] 40)).drew).set (g := gr) (o := 0) (.slice A3 l1.length c3) (fun _ => HD.out.tr))
        go_wp2_with (fail)
        go_region
        all_goals go_wp2_with (fail)
        all_goals go_ret
        all_goals exact ⟨by first | rfl | simp, _, _, HD9.out, HF9.out⟩
      · exact absurd (HN.out y hy) (by rw [hb]; decide)
    · have HT2 := Aside0.mk (HT1.out.fr (Fr.drawn (S := fun _ => False) hd))
      have HE2 := Aside0.mk (HE.out.fr (Fr.drawn (S := fun _ => False) hd))
      have HF2 := Aside0.mk ((HF.out.trans (Fr.drawn (S := fun _ => False) hd) (fun _ _ hf => hf)).mono (T := fun k => top ≤ k) (fun _ hf => hf.elim))
      have e3 := (blk_cell HE2.out.b 3).trans (show _ = some (Value.slice A L.length c) from rfl)
      have ep := (blk_cell HE2.out.p 0).trans (show _ = some (Value.slice A1 lx.length c1) from rfl)
      have HN := Aside0.mk hbad
      clear hd hbad he0 he2 he3 hep heq
      go_wp2_with (fail)
      refine (radd_calls _ 0 _ lx L A c HT2.out.rx (Nat.zero_le _) HD.out.rl HD.out.nl (HF2.out.C (S := fun k => top ≤ k) 0 HC.out (fun ad e hp => by have := HLT.out ad e hp; omega)) HT2.out.fresh).mono ?_
      rintro e W2 ⟨v1, us1, hR, hF3, (⟨hall, _, _⟩ | ⟨_, hus, rfl⟩)⟩
      · obtain ⟨y, hy, hb⟩ := HN.out
        exact absurd (hall y hy) (by rw [hb]; decide)
      · have hus := hus.symm
        subst hus
        obtain ⟨A3, c3, rfl⟩ := Kd.R_slice hR
        have HT3 := Aside0.mk (HT2.out.ref hF3 hR)
        have HE3 := Aside0.mk (HE2.out.fr hF3)
        have HF3 := Aside0.mk (HF2.out.trans hF3 (fun _ _ hf => hf.elim))
        clear hR hF3 e3 ep
        have HZ := Aside0.mk (blk_new W2 (.cells #[.slice A3 lx.length c3] 40))
        have HE9 := Aside0.mk (HE3.out.fr ((Fr.refl (fun _ => False) _).alloc (.cells #[.slice A3 lx.length c3] 40)))
        have HT9 := Aside0.mk ((HT3.out.fr ((Fr.refl (fun _ => False) _).alloc (.cells #[.slice A3 lx.length c3] 40))).fr (Fr.refl (fun _ => False) _).drew)
        have ez := (blk_cell HZ.out 0).trans (show _ = some (Value.slice A3 lx.length c3) from rfl)
        have er := (blk_cell HE9.out.r 0).trans (show _ = some (Value.slice A1 lx.length c1) from rfl)
        have ef := blk_frozen HE9.out.r 0
        have HD9 := Aside0.mk (Duo.put0 HT9.out (blk_drew HE9.out.a) (blk_drew HE9.out.r) (HD.out.rl) HD.out.rm (HD.out.nl) HD.out.nm HD.out.ta HD.out.tr)
        have HF9 := Aside0.mk (((HF3.out.alloc (.cells #[.slice A3 lx.length c3] 40)).drew).set (g := gr) (o := 0) (.slice A3 lx.length c3) (fun _ => HD.out.tr))
        go_wp2_with (fail)
        go_region
        all_goals go_wp2_with (fail)
        all_goals go_ret
        all_goals exact ⟨by first | rfl | simp, _, _, HD9.out, HF9.out⟩
  · have HE := Aside0.mk (Env.start w ga gr k wh n A c L (.slice A2 ly.length c2) (.slice A1 lx.length c1) HA.out HR.out)
    have hws := Env.size w k wh n A c L (.slice A2 ly.length c2) (.slice A1 lx.length c1)
    have HF := Aside0.mk (Env.frame w k wh n A c L (.slice A2 ly.length c2) (.slice A1 lx.length c1))
    generalize hW : Env.world w k wh n A c L (.slice A2 ly.length c2) (.slice A1 lx.length c1) = W at hws HF HE
    rw [show (((w.alloc (.cells #[.int .i64 k, .int .i64 wh, .int .i64 n, .slice A L.length c] 45)).alloc (.cells #[.slice A2 ly.length c2] 40)).alloc (.cells #[.slice A1 lx.length c1] 40)).drew.drew = W from hW]
    clear hW
    have HT1 := Aside0.mk (HT.out.fr HF.out)
    have he0 := (blk_cell HE.out.b 0).trans (show _ = some (Value.int .i64 k) from rfl)
    have he2 := (blk_cell HE.out.b 2).trans (show _ = some (Value.int .i64 n) from rfl)
    have he3 := (blk_cell HE.out.b 3).trans (show _ = some (Value.slice A L.length c) from rfl)
    have hep := (blk_cell HE.out.q 0).trans (show _ = some (Value.slice A1 lx.length c1) from rfl)
    have heq := (blk_cell HE.out.p 0).trans (show _ = some (Value.slice A2 ly.length c2) from rfl)
    have hlx : lx.length ≤ 1048576 := len_le HD.out.rl HD.out.nl
    have hly : ly.length ≤ 1048576 := len_le HD.out.rm HD.out.nm
    have hsz1 : top ≤ W.heap.size := by omega
    have HCW := Aside0.mk (HF.out.C (S := fun _ => False) 0 HC.out (fun _ _ _ => id))
    go_wp2_with (fail)
    refine (add_calls _ top g s lx L A c HT1.out.x hsz1 HD.out.rl HD.out.nl ⟨HCW.out, fun ad e hp => by have := HLT.out ad e hp; exact ⟨by have := HT1.out.gx; omega, fun e2 => by have := Kd.R_base HT1.out.x.row _ e2; omega, by omega⟩⟩).mono ?_
    rintro e W1 (⟨hn, l1, hinv, rfl, hST⟩ | ⟨hbad, rfl, hd⟩)
    · obtain ⟨s1, T2, hF2⟩ := HT1.out.turn hST
      have HE2 := Aside0.mk (HE.out.turn HT1.out.x hST)
      have HT2 := Aside0.mk T2
      have HF2 := Aside0.mk ((HF.out.mono (T := fun k => top ≤ k) (fun _ hf => hf.elim)).trans hF2 (fun _ _ h => h))
      have e3 := (blk_cell HE2.out.b 3).trans (show _ = some (Value.slice A L.length c) from rfl)
      have ep := (blk_cell HE2.out.q 0).trans (show _ = some (Value.slice A1 lx.length c1) from rfl)
      have HN := Aside0.mk hn
      have HI := Aside0.mk hinv
      have hl1 := hinv.len
      clear hST T2 hF2 hn hinv he0 he2 he3 hep heq
      go_wp2_with (fail)
      refine (radd_calls _ 0 _ lx L A c HT2.out.rx (Nat.zero_le _) HD.out.rl HD.out.nl (HF2.out.C (S := fun k => top ≤ k) 0 HC.out (fun ad e hp => by have := HLT.out ad e hp; omega)) HT2.out.fresh).mono ?_
      rintro e W2 ⟨v1, us1, hR, hF3, (⟨_, hinv2, rfl⟩ | ⟨⟨y, hy, hb⟩, _⟩)⟩
      · obtain rfl := add_same HI.out hinv2
        obtain ⟨A3, c3, rfl⟩ := Kd.R_slice hR
        have HT3 := Aside0.mk (HT2.out.ref hF3 hR)
        have HE3 := Aside0.mk (HE2.out.fr hF3)
        have HF3 := Aside0.mk (HF2.out.trans hF3 (fun _ _ hf => hf.elim))
        clear hR hF3 hinv2 e3 ep
        have HZ := Aside0.mk (blk_new W2 (.cells #[.slice A3 l1.length c3] 40))
        have HE9 := Aside0.mk (HE3.out.fr ((Fr.refl (fun _ => False) _).alloc (.cells #[.slice A3 l1.length c3] 40)))
        have HT9 := Aside0.mk ((HT3.out.fr ((Fr.refl (fun _ => False) _).alloc (.cells #[.slice A3 l1.length c3] 40))).fr (Fr.refl (fun _ => False) _).drew)
        have ez := (blk_cell HZ.out 0).trans (show _ = some (Value.slice A3 l1.length c3) from rfl)
        have er := (blk_cell HE9.out.r 0).trans (show _ = some (Value.slice A1 lx.length c1) from rfl)
        have ef := blk_frozen HE9.out.r 0
        have HD9 := Aside0.mk (Duo.put0 HT9.out (blk_drew HE9.out.a) (blk_drew HE9.out.r) (HI.out.rise) HD.out.rm (HI.out.num) HD.out.nm HD.out.ta HD.out.tr)
        have HF9 := Aside0.mk (((HF3.out.alloc (.cells #[.slice A3 l1.length c3] 40)).drew).set (g := gr) (o := 0) (.slice A3 l1.length c3) (fun _ => HD.out.tr))
        go_wp2_with (fail)
        go_region
        all_goals go_wp2_with (fail)
        all_goals go_ret
        all_goals exact ⟨by first | rfl | simp, _, _, HD9.out, HF9.out⟩
      · exact absurd (HN.out y hy) (by rw [hb]; decide)
    · have HT2 := Aside0.mk (HT1.out.fr (Fr.drawn (S := fun _ => False) hd))
      have HE2 := Aside0.mk (HE.out.fr (Fr.drawn (S := fun _ => False) hd))
      have HF2 := Aside0.mk ((HF.out.trans (Fr.drawn (S := fun _ => False) hd) (fun _ _ hf => hf)).mono (T := fun k => top ≤ k) (fun _ hf => hf.elim))
      have e3 := (blk_cell HE2.out.b 3).trans (show _ = some (Value.slice A L.length c) from rfl)
      have ep := (blk_cell HE2.out.q 0).trans (show _ = some (Value.slice A1 lx.length c1) from rfl)
      have HN := Aside0.mk hbad
      clear hd hbad he0 he2 he3 hep heq
      go_wp2_with (fail)
      refine (radd_calls _ 0 _ lx L A c HT2.out.rx (Nat.zero_le _) HD.out.rl HD.out.nl (HF2.out.C (S := fun k => top ≤ k) 0 HC.out (fun ad e hp => by have := HLT.out ad e hp; omega)) HT2.out.fresh).mono ?_
      rintro e W2 ⟨v1, us1, hR, hF3, (⟨hall, _, _⟩ | ⟨_, hus, rfl⟩)⟩
      · obtain ⟨y, hy, hb⟩ := HN.out
        exact absurd (hall y hy) (by rw [hb]; decide)
      · have hus := hus.symm
        subst hus
        obtain ⟨A3, c3, rfl⟩ := Kd.R_slice hR
        have HT3 := Aside0.mk (HT2.out.ref hF3 hR)
        have HE3 := Aside0.mk (HE2.out.fr hF3)
        have HF3 := Aside0.mk (HF2.out.trans hF3 (fun _ _ hf => hf.elim))
        clear hR hF3 e3 ep
        have HZ := Aside0.mk (blk_new W2 (.cells #[.slice A3 lx.length c3] 40))
        have HE9 := Aside0.mk (HE3.out.fr ((Fr.refl (fun _ => False) _).alloc (.cells #[.slice A3 lx.length c3] 40)))
        have HT9 := Aside0.mk ((HT3.out.fr ((Fr.refl (fun _ => False) _).alloc (.cells #[.slice A3 lx.length c3] 40))).fr (Fr.refl (fun _ => False) _).drew)
        have ez := (blk_cell HZ.out 0).trans (show _ = some (Value.slice A3 lx.length c3) from rfl)
        have er := (blk_cell HE9.out.r 0).trans (show _ = some (Value.slice A1 lx.length c1) from rfl)
        have ef := blk_frozen HE9.out.r 0
        have HD9 := Aside0.mk (Duo.put0 HT9.out (blk_drew HE9.out.a) (blk_drew HE9.out.r) (HD.out.rl) HD.out.rm (HD.out.nl) HD.out.nm HD.out.ta HD.out.tr)
        have HF9 := Aside0.mk (((HF3.out.alloc (.cells #[.slice A3 lx.length c3] 40)).drew).set (g := gr) (o := 0) (.slice A3 lx.length c3) (fun _ => HD.out.tr))
        go_wp2_with (fail)
        go_region
        all_goals go_wp2_with (fail)
        all_goals go_ret
        all_goals exact ⟨by first | rfl | simp, _, _, HD9.out, HF9.out⟩

set_option maxRecDepth 100000 in
set_option maxHeartbeats 4000000 in
theorem does_0_1 (w : World) (top ga gr : Nat) (k wh n : Int) (A : Option Addr) (c : Nat) (L lx ly : List Int) (D : Duo w top ga gr lx ly) (hsz : top ≤ w.heap.size) (hwh : bits BinOp.and IntKind.i64 wh 1 = 0) (hk : (wrap64 (k.tmod 9 + 9)).tmod 9 = 1)
    (hC : kI.C w A L.length L) (hlt : ∀ ad, A = some ad → 0 < L.length → ad.block < top) (hT : Tab w) :
    Calls Tryd.prog 19 #[.pointer (some ⟨ga, 0, none⟩), .pointer (some ⟨gr, 0, none⟩), .agg #[.int .i64 k, .int .i64 wh, .int .i64 n, .slice A L.length c]] w (DoPost w top ga gr) := by
  obtain ⟨g, h, s, t, v, u, T0, ha, hr⟩ := D.ex
  have T : Two w top g h s t v u lx ly lx ly := T0
  obtain ⟨A1, c1, rfl⟩ := Kd.R_slice T.rx
  obtain ⟨A2, c2, rfl⟩ := Kd.R_slice T.ry
  have hu := Tryd.underlying45
  have hu2 := Tryd.underlying38
  have hu3 := Tryd.underlying43
  have hu4 := Tryd.underlying40
  have hb := blk_new w (.cells #[.int .i64 k, .int .i64 wh, .int .i64 n, .slice A L.length c] 45)
  have hcb0 := (blk_cell hb 0).trans (show _ = some (Value.int .i64 k) from rfl)
  have hcb1 := (blk_cell hb 1).trans (show _ = some (Value.int .i64 wh) from rfl)
  have hcb2 := (blk_cell hb 2).trans (show _ = some (Value.int .i64 n) from rfl)
  have hcb3 := (blk_cell hb 3).trans (show _ = some (Value.slice A L.length c) from rfl)
  have hca := (blk_cell (blk_alloc ha (.cells #[.int .i64 k, .int .i64 wh, .int .i64 n, .slice A L.length c] 45)) 0).trans (show _ = some (Value.pointer (some ⟨g, 0, none⟩)) from rfl)
  have hcc := (blk_cell (blk_alloc ha (.cells #[.int .i64 k, .int .i64 wh, .int .i64 n, .slice A L.length c] 45)) 1).trans (show _ = some (Value.pointer (some ⟨h, 0, none⟩)) from rfl)
  have hra : ∀ X Y : Array Value, (((w.alloc (.cells #[.int .i64 k, .int .i64 wh, .int .i64 n, .slice A L.length c] 45)).alloc (.cells X 40)).alloc (.cells Y 40)).cell? ⟨gr, 0, none⟩ = some (.slice A1 lx.length c1) := fun X Y => (blk_cell (blk_alloc (blk_alloc (blk_alloc hr _) _) _) 0).trans rfl
  have hrc : ∀ X Y : Array Value, (((w.alloc (.cells #[.int .i64 k, .int .i64 wh, .int .i64 n, .slice A L.length c] 45)).alloc (.cells X 40)).alloc (.cells Y 40)).cell? ⟨gr, 1, none⟩ = some (.slice A2 ly.length c2) := fun X Y => (blk_cell (blk_alloc (blk_alloc (blk_alloc hr _) _) _) 1).trans rfl
  have hra2 : ∀ X : Array Value, ((w.alloc (.cells #[.int .i64 k, .int .i64 wh, .int .i64 n, .slice A L.length c] 45)).alloc (.cells X 40)).cell? ⟨gr, 0, none⟩ = some (.slice A1 lx.length c1) := fun X => (blk_cell (blk_alloc (blk_alloc hr _) _) 0).trans rfl
  have hrc2 : ∀ X : Array Value, ((w.alloc (.cells #[.int .i64 k, .int .i64 wh, .int .i64 n, .slice A L.length c] 45)).alloc (.cells X 40)).cell? ⟨gr, 1, none⟩ = some (.slice A2 ly.length c2) := fun X => (blk_cell (blk_alloc (blk_alloc hr _) _) 1).trans rfl
  have hra1 := (blk_cell (blk_alloc hr (.cells #[.int .i64 k, .int .i64 wh, .int .i64 n, .slice A L.length c] 45)) 0).trans (show _ = some (Value.slice A1 lx.length c1) from rfl)
  have hrc1 := (blk_cell (blk_alloc hr (.cells #[.int .i64 k, .int .i64 wh, .int .i64 n, .slice A L.length c] 45)) 1).trans (show _ = some (Value.slice A2 ly.length c2) from rfl)
  have HA := Aside0.mk ha
  have HR := Aside0.mk hr
  have HT := Aside0.mk T
  have HD := Aside0.mk D
  have HC := Aside0.mk hC
  have HLT := Aside0.mk hlt
  have HTAB := Aside0.mk hT
  clear ha hr hb T T0 D hC hlt hT
  go_enter Tryd.func19, Tryd.ntmps19
  go_wp2_with (fail)
  go_region
  all_goals go_wp2_with (fail)
  all_goals go_region
  all_goals clear hcb0 hcb1 hcb2 hcb3 hca hcc hra hrc hra1 hrc1 hra2 hrc2
  · have HE := Aside0.mk (Env.start w ga gr k wh n A c L (.slice A1 lx.length c1) (.slice A2 ly.length c2) HA.out HR.out)
    have hws := Env.size w k wh n A c L (.slice A1 lx.length c1) (.slice A2 ly.length c2)
    have HF := Aside0.mk (Env.frame w k wh n A c L (.slice A1 lx.length c1) (.slice A2 ly.length c2))
    generalize hW : Env.world w k wh n A c L (.slice A1 lx.length c1) (.slice A2 ly.length c2) = W at hws HF HE
    rw [show (((w.alloc (.cells #[.int .i64 k, .int .i64 wh, .int .i64 n, .slice A L.length c] 45)).alloc (.cells #[.slice A1 lx.length c1] 40)).alloc (.cells #[.slice A2 ly.length c2] 40)).drew.drew = W from hW]
    clear hW
    have HT1 := Aside0.mk (HT.out.fr HF.out)
    have he0 := (blk_cell HE.out.b 0).trans (show _ = some (Value.int .i64 k) from rfl)
    have he2 := (blk_cell HE.out.b 2).trans (show _ = some (Value.int .i64 n) from rfl)
    have he3 := (blk_cell HE.out.b 3).trans (show _ = some (Value.slice A L.length c) from rfl)
    have hep := (blk_cell HE.out.p 0).trans (show _ = some (Value.slice A1 lx.length c1) from rfl)
    have heq := (blk_cell HE.out.q 0).trans (show _ = some (Value.slice A2 ly.length c2) from rfl)
    have hlx : lx.length ≤ 1048576 := len_le HD.out.rl HD.out.nl
    have hly : ly.length ≤ 1048576 := len_le HD.out.rm HD.out.nm
    have hsz1 : top ≤ W.heap.size := by omega
    have HCW := Aside0.mk (HF.out.C (S := fun _ => False) 0 HC.out (fun _ _ _ => id))
    have HF1 := Aside0.mk (HF.out.mono (T := fun k => top ≤ k) (fun _ hf => hf.elim))
    go_wp2_with (fail)
    refine (rdrop_calls _ 0 _ lx L A c HT1.out.rx (Nat.zero_le _) hlx HCW.out HT1.out.fresh).mono ?_
    rintro e W2 ⟨v1, hR, hF3, rfl⟩
    obtain ⟨A3, c3, rfl⟩ := Kd.R_slice hR
    have HT3 := Aside0.mk (HT1.out.ref hF3 hR)
    have HE3 := Aside0.mk (HE.out.fr hF3)
    have HF3 := Aside0.mk (HF1.out.trans hF3 (fun _ _ hf => hf.elim))
    clear hR hF3 he0 he2 he3 hep heq HCW
    have hle := less_le lx L
    have HZ := Aside0.mk (blk_new W2 (.cells #[.slice A3 (less lx L).length c3] 40))
    have HE8 := Aside0.mk (HE3.out.fr ((Fr.refl (fun _ => False) _).alloc (.cells #[.slice A3 (less lx L).length c3] 40)))
    have HE9 := Aside0.mk ((HE8.out.put 0 (.slice A3 (less lx L).length c3)).fr (Fr.refl (fun _ => False) _).drew)
    have HT9 := Aside0.mk ((Two.put (i := 0) (v' := .slice A3 (less lx L).length c3) (HT3.out.fr ((Fr.refl (fun _ => False) _).alloc (.cells #[.slice A3 (less lx L).length c3] 40))) HE8.out.r).fr (Fr.refl (fun _ => False) _).drew)
    have ez := (blk_cell HZ.out 0).trans (show _ = some (Value.slice A3 (less lx L).length c3) from rfl)
    have er := (blk_cell HE8.out.r 0).trans (show _ = some (Value.slice A1 lx.length c1) from rfl)
    have ef := blk_frozen HE8.out.r 0
    have HF9 := Aside0.mk (((HF3.out.alloc (.cells #[.slice A3 (less lx L).length c3] 40)).set (g := gr) (o := 0) (.slice A3 (less lx L).length c3) (fun _ => HD.out.tr)).drew)
    go_wp2_with (fail)
    go_region
    have hsz9 : top ≤ ((W2.alloc (.cells #[.slice A3 (less lx L).length c3] 40)).setCell ⟨gr, 0, none⟩ (.slice A3 (less lx L).length c3)).drew.heap.size := by have := HF9.out.size; omega
    generalize hW4 : ((W2.alloc (.cells #[.slice A3 (less lx L).length c3] 40)).setCell ⟨gr, 0, none⟩ (.slice A3 (less lx L).length c3)).drew = W4 at HE9 HT9 HF9 hsz9 ⊢
    clear hW4 ez er ef HZ HE8
    simp only [List.setIfInBounds_toArray, List.set_cons_zero] at HE9
    have e3 := (blk_cell HE9.out.b 3).trans (show _ = some (Value.slice A L.length c) from rfl)
    have HC9 := Aside0.mk (HF9.out.C (S := fun k => top ≤ k) 0 HC.out (fun ad e hp => by have := HLT.out ad e hp; omega))
    go_wp2_with (fail)
    refine (drop_calls _ top g s lx L A c HT9.out.x hsz9 HD.out.rl hlx ⟨HC9.out, fun ad e hp => by have := HLT.out ad e hp; exact ⟨by have := HT9.out.gx; omega, fun e2 => by have := Kd.R_base HT9.out.x.row _ e2; omega, by omega⟩⟩).mono ?_
    rintro e W5 ⟨l', hdi, _, rfl, hST⟩
    obtain rfl := drop_less HD.out.rl hdi
    obtain ⟨s1, T5, hF5⟩ := HT9.out.turn hST
    have HE5 := HE9.out.turn HT9.out.x hST
    have HD5 := Aside0.mk (Duo.mk0 T5 HE5.a HE5.r (less_rising HD.out.rl) HD.out.rm (less_num HD.out.nl) HD.out.nm HD.out.ta HD.out.tr)
    have HF5 := Aside0.mk (HF9.out.trans hF5 (fun _ _ hf => hf))
    clear hdi hST T5 hF5 HE5 e3
    go_wp2_with (fail)
    go_ret
    exact ⟨by first | rfl | simp, _, _, HD5.out, HF5.out⟩
  · have HE := Aside0.mk (Env.start w ga gr k wh n A c L (.slice A2 ly.length c2) (.slice A1 lx.length c1) HA.out HR.out)
    have hws := Env.size w k wh n A c L (.slice A2 ly.length c2) (.slice A1 lx.length c1)
    have HF := Aside0.mk (Env.frame w k wh n A c L (.slice A2 ly.length c2) (.slice A1 lx.length c1))
    generalize hW : Env.world w k wh n A c L (.slice A2 ly.length c2) (.slice A1 lx.length c1) = W at hws HF HE
    rw [show (((w.alloc (.cells #[.int .i64 k, .int .i64 wh, .int .i64 n, .slice A L.length c] 45)).alloc (.cells #[.slice A2 ly.length c2] 40)).alloc (.cells #[.slice A1 lx.length c1] 40)).drew.drew = W from hW]
    clear hW
    have HT1 := Aside0.mk (HT.out.fr HF.out)
    have he0 := (blk_cell HE.out.b 0).trans (show _ = some (Value.int .i64 k) from rfl)
    have he2 := (blk_cell HE.out.b 2).trans (show _ = some (Value.int .i64 n) from rfl)
    have he3 := (blk_cell HE.out.b 3).trans (show _ = some (Value.slice A L.length c) from rfl)
    have hep := (blk_cell HE.out.q 0).trans (show _ = some (Value.slice A1 lx.length c1) from rfl)
    have heq := (blk_cell HE.out.p 0).trans (show _ = some (Value.slice A2 ly.length c2) from rfl)
    have hlx : lx.length ≤ 1048576 := len_le HD.out.rl HD.out.nl
    have hly : ly.length ≤ 1048576 := len_le HD.out.rm HD.out.nm
    have hsz1 : top ≤ W.heap.size := by omega
    have HCW := Aside0.mk (HF.out.C (S := fun _ => False) 0 HC.out (fun _ _ _ => id))
    have HF1 := Aside0.mk (HF.out.mono (T := fun k => top ≤ k) (fun _ hf => hf.elim))
    go_wp2_with (fail)
    refine (rdrop_calls _ 0 _ lx L A c HT1.out.rx (Nat.zero_le _) hlx HCW.out HT1.out.fresh).mono ?_
    rintro e W2 ⟨v1, hR, hF3, rfl⟩
    obtain ⟨A3, c3, rfl⟩ := Kd.R_slice hR
    have HT3 := Aside0.mk (HT1.out.ref hF3 hR)
    have HE3 := Aside0.mk (HE.out.fr hF3)
    have HF3 := Aside0.mk (HF1.out.trans hF3 (fun _ _ hf => hf.elim))
    clear hR hF3 he0 he2 he3 hep heq HCW
    have hle := less_le lx L
    have HZ := Aside0.mk (blk_new W2 (.cells #[.slice A3 (less lx L).length c3] 40))
    have HE8 := Aside0.mk (HE3.out.fr ((Fr.refl (fun _ => False) _).alloc (.cells #[.slice A3 (less lx L).length c3] 40)))
    have HE9 := Aside0.mk ((HE8.out.put 0 (.slice A3 (less lx L).length c3)).fr (Fr.refl (fun _ => False) _).drew)
    have HT9 := Aside0.mk ((Two.put (i := 0) (v' := .slice A3 (less lx L).length c3) (HT3.out.fr ((Fr.refl (fun _ => False) _).alloc (.cells #[.slice A3 (less lx L).length c3] 40))) HE8.out.r).fr (Fr.refl (fun _ => False) _).drew)
    have ez := (blk_cell HZ.out 0).trans (show _ = some (Value.slice A3 (less lx L).length c3) from rfl)
    have er := (blk_cell HE8.out.r 0).trans (show _ = some (Value.slice A1 lx.length c1) from rfl)
    have ef := blk_frozen HE8.out.r 0
    have HF9 := Aside0.mk (((HF3.out.alloc (.cells #[.slice A3 (less lx L).length c3] 40)).set (g := gr) (o := 0) (.slice A3 (less lx L).length c3) (fun _ => HD.out.tr)).drew)
    go_wp2_with (fail)
    go_region
    have hsz9 : top ≤ ((W2.alloc (.cells #[.slice A3 (less lx L).length c3] 40)).setCell ⟨gr, 0, none⟩ (.slice A3 (less lx L).length c3)).drew.heap.size := by have := HF9.out.size; omega
    generalize hW4 : ((W2.alloc (.cells #[.slice A3 (less lx L).length c3] 40)).setCell ⟨gr, 0, none⟩ (.slice A3 (less lx L).length c3)).drew = W4 at HE9 HT9 HF9 hsz9 ⊢
    clear hW4 ez er ef HZ HE8
    simp only [List.setIfInBounds_toArray, List.set_cons_zero] at HE9
    have e3 := (blk_cell HE9.out.b 3).trans (show _ = some (Value.slice A L.length c) from rfl)
    have HC9 := Aside0.mk (HF9.out.C (S := fun k => top ≤ k) 0 HC.out (fun ad e hp => by have := HLT.out ad e hp; omega))
    go_wp2_with (fail)
    refine (drop_calls _ top g s lx L A c HT9.out.x hsz9 HD.out.rl hlx ⟨HC9.out, fun ad e hp => by have := HLT.out ad e hp; exact ⟨by have := HT9.out.gx; omega, fun e2 => by have := Kd.R_base HT9.out.x.row _ e2; omega, by omega⟩⟩).mono ?_
    rintro e W5 ⟨l', hdi, _, rfl, hST⟩
    obtain rfl := drop_less HD.out.rl hdi
    obtain ⟨s1, T5, hF5⟩ := HT9.out.turn hST
    have HE5 := HE9.out.turn HT9.out.x hST
    have HD5 := Aside0.mk (Duo.mk0 T5 HE5.a HE5.r (less_rising HD.out.rl) HD.out.rm (less_num HD.out.nl) HD.out.nm HD.out.ta HD.out.tr)
    have HF5 := Aside0.mk (HF9.out.trans hF5 (fun _ _ hf => hf))
    clear hdi hST T5 hF5 HE5 e3
    go_wp2_with (fail)
    go_ret
    exact ⟨by first | rfl | simp, _, _, HD5.out, HF5.out⟩

set_option maxRecDepth 100000 in
set_option maxHeartbeats 4000000 in
theorem does_0_2 (w : World) (top ga gr : Nat) (k wh n : Int) (A : Option Addr) (c : Nat) (L lx ly : List Int) (D : Duo w top ga gr lx ly) (hsz : top ≤ w.heap.size) (hwh : bits BinOp.and IntKind.i64 wh 1 = 0) (hk : (wrap64 (k.tmod 9 + 9)).tmod 9 = 2)
    (hC : kI.C w A L.length L) (hlt : ∀ ad, A = some ad → 0 < L.length → ad.block < top) (hT : Tab w) :
    Calls Tryd.prog 19 #[.pointer (some ⟨ga, 0, none⟩), .pointer (some ⟨gr, 0, none⟩), .agg #[.int .i64 k, .int .i64 wh, .int .i64 n, .slice A L.length c]] w (DoPost w top ga gr) := by
  obtain ⟨g, h, s, t, v, u, T0, ha, hr⟩ := D.ex
  have T : Two w top g h s t v u lx ly lx ly := T0
  obtain ⟨A1, c1, rfl⟩ := Kd.R_slice T.rx
  obtain ⟨A2, c2, rfl⟩ := Kd.R_slice T.ry
  have hu := Tryd.underlying45
  have hu2 := Tryd.underlying38
  have hu3 := Tryd.underlying43
  have hu4 := Tryd.underlying40
  have hb := blk_new w (.cells #[.int .i64 k, .int .i64 wh, .int .i64 n, .slice A L.length c] 45)
  have hcb0 := (blk_cell hb 0).trans (show _ = some (Value.int .i64 k) from rfl)
  have hcb1 := (blk_cell hb 1).trans (show _ = some (Value.int .i64 wh) from rfl)
  have hcb2 := (blk_cell hb 2).trans (show _ = some (Value.int .i64 n) from rfl)
  have hcb3 := (blk_cell hb 3).trans (show _ = some (Value.slice A L.length c) from rfl)
  have hca := (blk_cell (blk_alloc ha (.cells #[.int .i64 k, .int .i64 wh, .int .i64 n, .slice A L.length c] 45)) 0).trans (show _ = some (Value.pointer (some ⟨g, 0, none⟩)) from rfl)
  have hcc := (blk_cell (blk_alloc ha (.cells #[.int .i64 k, .int .i64 wh, .int .i64 n, .slice A L.length c] 45)) 1).trans (show _ = some (Value.pointer (some ⟨h, 0, none⟩)) from rfl)
  have hra : ∀ X Y : Array Value, (((w.alloc (.cells #[.int .i64 k, .int .i64 wh, .int .i64 n, .slice A L.length c] 45)).alloc (.cells X 40)).alloc (.cells Y 40)).cell? ⟨gr, 0, none⟩ = some (.slice A1 lx.length c1) := fun X Y => (blk_cell (blk_alloc (blk_alloc (blk_alloc hr _) _) _) 0).trans rfl
  have hrc : ∀ X Y : Array Value, (((w.alloc (.cells #[.int .i64 k, .int .i64 wh, .int .i64 n, .slice A L.length c] 45)).alloc (.cells X 40)).alloc (.cells Y 40)).cell? ⟨gr, 1, none⟩ = some (.slice A2 ly.length c2) := fun X Y => (blk_cell (blk_alloc (blk_alloc (blk_alloc hr _) _) _) 1).trans rfl
  have hra2 : ∀ X : Array Value, ((w.alloc (.cells #[.int .i64 k, .int .i64 wh, .int .i64 n, .slice A L.length c] 45)).alloc (.cells X 40)).cell? ⟨gr, 0, none⟩ = some (.slice A1 lx.length c1) := fun X => (blk_cell (blk_alloc (blk_alloc hr _) _) 0).trans rfl
  have hrc2 : ∀ X : Array Value, ((w.alloc (.cells #[.int .i64 k, .int .i64 wh, .int .i64 n, .slice A L.length c] 45)).alloc (.cells X 40)).cell? ⟨gr, 1, none⟩ = some (.slice A2 ly.length c2) := fun X => (blk_cell (blk_alloc (blk_alloc hr _) _) 1).trans rfl
  have hra1 := (blk_cell (blk_alloc hr (.cells #[.int .i64 k, .int .i64 wh, .int .i64 n, .slice A L.length c] 45)) 0).trans (show _ = some (Value.slice A1 lx.length c1) from rfl)
  have hrc1 := (blk_cell (blk_alloc hr (.cells #[.int .i64 k, .int .i64 wh, .int .i64 n, .slice A L.length c] 45)) 1).trans (show _ = some (Value.slice A2 ly.length c2) from rfl)
  have HA := Aside0.mk ha
  have HR := Aside0.mk hr
  have HT := Aside0.mk T
  have HD := Aside0.mk D
  have HC := Aside0.mk hC
  have HLT := Aside0.mk hlt
  have HTAB := Aside0.mk hT
  clear ha hr hb T T0 D hC hlt hT
  go_enter Tryd.func19, Tryd.ntmps19
  go_wp2_with (fail)
  go_region
  all_goals go_wp2_with (fail)
  all_goals go_region
  all_goals clear hcb0 hcb1 hcb2 hcb3 hca hcc hra hrc hra1 hrc1 hra2 hrc2
  · have HE := Aside0.mk (Env.start w ga gr k wh n A c L (.slice A1 lx.length c1) (.slice A2 ly.length c2) HA.out HR.out)
    have hws := Env.size w k wh n A c L (.slice A1 lx.length c1) (.slice A2 ly.length c2)
    have HF := Aside0.mk (Env.frame w k wh n A c L (.slice A1 lx.length c1) (.slice A2 ly.length c2))
    generalize hW : Env.world w k wh n A c L (.slice A1 lx.length c1) (.slice A2 ly.length c2) = W at hws HF HE
    rw [show (((w.alloc (.cells #[.int .i64 k, .int .i64 wh, .int .i64 n, .slice A L.length c] 45)).alloc (.cells #[.slice A1 lx.length c1] 40)).alloc (.cells #[.slice A2 ly.length c2] 40)).drew.drew = W from hW]
    clear hW
    have HT1 := Aside0.mk (HT.out.fr HF.out)
    have he0 := (blk_cell HE.out.b 0).trans (show _ = some (Value.int .i64 k) from rfl)
    have he2 := (blk_cell HE.out.b 2).trans (show _ = some (Value.int .i64 n) from rfl)
    have he3 := (blk_cell HE.out.b 3).trans (show _ = some (Value.slice A L.length c) from rfl)
    have hep := (blk_cell HE.out.p 0).trans (show _ = some (Value.slice A1 lx.length c1) from rfl)
    have heq := (blk_cell HE.out.q 0).trans (show _ = some (Value.slice A2 ly.length c2) from rfl)
    have hlx : lx.length ≤ 1048576 := len_le HD.out.rl HD.out.nl
    have hly : ly.length ≤ 1048576 := len_le HD.out.rm HD.out.nm
    have hsz1 : top ≤ W.heap.size := by omega
    go_wp2_with (fail)
    have HF1 := Aside0.mk HF.out.drew
    have HT1 := Aside0.mk (HT.out.fr HF1.out)
    have HE1 := Aside0.mk (HE.out.fr (Fr.refl _ _).drew)
    go_region_held3 (fun w' => w'.cell? ⟨w.heap.size, 2, none⟩ = some (.int .i64 n) ∧ w'.cell? ⟨w.heap.size + 1, 0, none⟩ = some (.slice A1 lx.length c1)) (go_keep)
      (first | (go_at_call 12; refine (has_calls _ top g s lx n HT1.out.x HD.out.rl (by omega)).mono ?_; rintro e W2 ⟨rfl, hd⟩; have HF2 := Aside0.mk (HF1.out.trans (Fr.drawn (S := fun _ => False) hd) (fun _ _ hf => hf)); have HT2 := Aside0.mk (HT.out.fr HF2.out); have HE2 := Aside0.mk (HE1.out.fr (Fr.drawn (S := fun _ => False) hd)); have f1n := (blk_cell HE2.out.b 2).trans (show _ = some (Value.int .i64 n) from rfl); have f1p := (blk_cell HE2.out.p 0).trans (show _ = some (Value.slice A1 lx.length c1) from rfl); clear hd) | (go_at_call 40; refine (rhas_calls _ lx A1 c1 n (R_C HT2.out.rx)).mono ?_; rintro e W3 ⟨rfl, hd⟩; have HF3 := Aside0.mk (HF2.out.trans (hd) (fun _ _ hf => hf)); have HT3 := Aside0.mk (HT.out.fr HF3.out); have HE3 := Aside0.mk (HE2.out.fr (hd)); have f2n := (blk_cell HE3.out.b 2).trans (show _ = some (Value.int .i64 n) from rfl); have f2p := (blk_cell HE3.out.p 0).trans (show _ = some (Value.slice A1 lx.length c1) from rfl); clear hd))
    all_goals go_wp2_with (fail)
    all_goals go_ret
    all_goals exact Duo.done HD.out HF3.out (by first | rfl | simp)
  · have HE := Aside0.mk (Env.start w ga gr k wh n A c L (.slice A2 ly.length c2) (.slice A1 lx.length c1) HA.out HR.out)
    have hws := Env.size w k wh n A c L (.slice A2 ly.length c2) (.slice A1 lx.length c1)
    have HF := Aside0.mk (Env.frame w k wh n A c L (.slice A2 ly.length c2) (.slice A1 lx.length c1))
    generalize hW : Env.world w k wh n A c L (.slice A2 ly.length c2) (.slice A1 lx.length c1) = W at hws HF HE
    rw [show (((w.alloc (.cells #[.int .i64 k, .int .i64 wh, .int .i64 n, .slice A L.length c] 45)).alloc (.cells #[.slice A2 ly.length c2] 40)).alloc (.cells #[.slice A1 lx.length c1] 40)).drew.drew = W from hW]
    clear hW
    have HT1 := Aside0.mk (HT.out.fr HF.out)
    have he0 := (blk_cell HE.out.b 0).trans (show _ = some (Value.int .i64 k) from rfl)
    have he2 := (blk_cell HE.out.b 2).trans (show _ = some (Value.int .i64 n) from rfl)
    have he3 := (blk_cell HE.out.b 3).trans (show _ = some (Value.slice A L.length c) from rfl)
    have hep := (blk_cell HE.out.q 0).trans (show _ = some (Value.slice A1 lx.length c1) from rfl)
    have heq := (blk_cell HE.out.p 0).trans (show _ = some (Value.slice A2 ly.length c2) from rfl)
    have hlx : lx.length ≤ 1048576 := len_le HD.out.rl HD.out.nl
    have hly : ly.length ≤ 1048576 := len_le HD.out.rm HD.out.nm
    have hsz1 : top ≤ W.heap.size := by omega
    go_wp2_with (fail)
    have HF1 := Aside0.mk HF.out.drew
    have HT1 := Aside0.mk (HT.out.fr HF1.out)
    have HE1 := Aside0.mk (HE.out.fr (Fr.refl _ _).drew)
    go_region_held3 (fun w' => w'.cell? ⟨w.heap.size, 2, none⟩ = some (.int .i64 n) ∧ w'.cell? ⟨w.heap.size + 1 + 1, 0, none⟩ = some (.slice A1 lx.length c1)) (go_keep)
      (first | (go_at_call 12; refine (has_calls _ top g s lx n HT1.out.x HD.out.rl (by omega)).mono ?_; rintro e W2 ⟨rfl, hd⟩; have HF2 := Aside0.mk (HF1.out.trans (Fr.drawn (S := fun _ => False) hd) (fun _ _ hf => hf)); have HT2 := Aside0.mk (HT.out.fr HF2.out); have HE2 := Aside0.mk (HE1.out.fr (Fr.drawn (S := fun _ => False) hd)); have f1n := (blk_cell HE2.out.b 2).trans (show _ = some (Value.int .i64 n) from rfl); have f1p := (blk_cell HE2.out.q 0).trans (show _ = some (Value.slice A1 lx.length c1) from rfl); clear hd) | (go_at_call 40; refine (rhas_calls _ lx A1 c1 n (R_C HT2.out.rx)).mono ?_; rintro e W3 ⟨rfl, hd⟩; have HF3 := Aside0.mk (HF2.out.trans (hd) (fun _ _ hf => hf)); have HT3 := Aside0.mk (HT.out.fr HF3.out); have HE3 := Aside0.mk (HE2.out.fr (hd)); have f2n := (blk_cell HE3.out.b 2).trans (show _ = some (Value.int .i64 n) from rfl); have f2p := (blk_cell HE3.out.q 0).trans (show _ = some (Value.slice A1 lx.length c1) from rfl); clear hd))
    all_goals go_wp2_with (fail)
    all_goals go_ret
    all_goals exact Duo.done HD.out HF3.out (by first | rfl | simp)

set_option maxRecDepth 100000 in
set_option maxHeartbeats 4000000 in
theorem does_0_3 (w : World) (top ga gr : Nat) (k wh n : Int) (A : Option Addr) (c : Nat) (L lx ly : List Int) (D : Duo w top ga gr lx ly) (hsz : top ≤ w.heap.size) (hwh : bits BinOp.and IntKind.i64 wh 1 = 0) (hk : (wrap64 (k.tmod 9 + 9)).tmod 9 = 3)
    (hC : kI.C w A L.length L) (hlt : ∀ ad, A = some ad → 0 < L.length → ad.block < top) (hT : Tab w) :
    Calls Tryd.prog 19 #[.pointer (some ⟨ga, 0, none⟩), .pointer (some ⟨gr, 0, none⟩), .agg #[.int .i64 k, .int .i64 wh, .int .i64 n, .slice A L.length c]] w (DoPost w top ga gr) := by
  obtain ⟨g, h, s, t, v, u, T0, ha, hr⟩ := D.ex
  have T : Two w top g h s t v u lx ly lx ly := T0
  obtain ⟨A1, c1, rfl⟩ := Kd.R_slice T.rx
  obtain ⟨A2, c2, rfl⟩ := Kd.R_slice T.ry
  have hu := Tryd.underlying45
  have hu2 := Tryd.underlying38
  have hu3 := Tryd.underlying43
  have hu4 := Tryd.underlying40
  have hb := blk_new w (.cells #[.int .i64 k, .int .i64 wh, .int .i64 n, .slice A L.length c] 45)
  have hcb0 := (blk_cell hb 0).trans (show _ = some (Value.int .i64 k) from rfl)
  have hcb1 := (blk_cell hb 1).trans (show _ = some (Value.int .i64 wh) from rfl)
  have hcb2 := (blk_cell hb 2).trans (show _ = some (Value.int .i64 n) from rfl)
  have hcb3 := (blk_cell hb 3).trans (show _ = some (Value.slice A L.length c) from rfl)
  have hca := (blk_cell (blk_alloc ha (.cells #[.int .i64 k, .int .i64 wh, .int .i64 n, .slice A L.length c] 45)) 0).trans (show _ = some (Value.pointer (some ⟨g, 0, none⟩)) from rfl)
  have hcc := (blk_cell (blk_alloc ha (.cells #[.int .i64 k, .int .i64 wh, .int .i64 n, .slice A L.length c] 45)) 1).trans (show _ = some (Value.pointer (some ⟨h, 0, none⟩)) from rfl)
  have hra : ∀ X Y : Array Value, (((w.alloc (.cells #[.int .i64 k, .int .i64 wh, .int .i64 n, .slice A L.length c] 45)).alloc (.cells X 40)).alloc (.cells Y 40)).cell? ⟨gr, 0, none⟩ = some (.slice A1 lx.length c1) := fun X Y => (blk_cell (blk_alloc (blk_alloc (blk_alloc hr _) _) _) 0).trans rfl
  have hrc : ∀ X Y : Array Value, (((w.alloc (.cells #[.int .i64 k, .int .i64 wh, .int .i64 n, .slice A L.length c] 45)).alloc (.cells X 40)).alloc (.cells Y 40)).cell? ⟨gr, 1, none⟩ = some (.slice A2 ly.length c2) := fun X Y => (blk_cell (blk_alloc (blk_alloc (blk_alloc hr _) _) _) 1).trans rfl
  have hra2 : ∀ X : Array Value, ((w.alloc (.cells #[.int .i64 k, .int .i64 wh, .int .i64 n, .slice A L.length c] 45)).alloc (.cells X 40)).cell? ⟨gr, 0, none⟩ = some (.slice A1 lx.length c1) := fun X => (blk_cell (blk_alloc (blk_alloc hr _) _) 0).trans rfl
  have hrc2 : ∀ X : Array Value, ((w.alloc (.cells #[.int .i64 k, .int .i64 wh, .int .i64 n, .slice A L.length c] 45)).alloc (.cells X 40)).cell? ⟨gr, 1, none⟩ = some (.slice A2 ly.length c2) := fun X => (blk_cell (blk_alloc (blk_alloc hr _) _) 1).trans rfl
  have hra1 := (blk_cell (blk_alloc hr (.cells #[.int .i64 k, .int .i64 wh, .int .i64 n, .slice A L.length c] 45)) 0).trans (show _ = some (Value.slice A1 lx.length c1) from rfl)
  have hrc1 := (blk_cell (blk_alloc hr (.cells #[.int .i64 k, .int .i64 wh, .int .i64 n, .slice A L.length c] 45)) 1).trans (show _ = some (Value.slice A2 ly.length c2) from rfl)
  have HA := Aside0.mk ha
  have HR := Aside0.mk hr
  have HT := Aside0.mk T
  have HD := Aside0.mk D
  have HC := Aside0.mk hC
  have HLT := Aside0.mk hlt
  have HTAB := Aside0.mk hT
  clear ha hr hb T T0 D hC hlt hT
  go_enter Tryd.func19, Tryd.ntmps19
  go_wp2_with (fail)
  go_region
  all_goals go_wp2_with (fail)
  all_goals go_region
  all_goals clear hcb0 hcb1 hcb2 hcb3 hca hcc hra hrc hra1 hrc1 hra2 hrc2
  · have HE := Aside0.mk (Env.start w ga gr k wh n A c L (.slice A1 lx.length c1) (.slice A2 ly.length c2) HA.out HR.out)
    have hws := Env.size w k wh n A c L (.slice A1 lx.length c1) (.slice A2 ly.length c2)
    have HF := Aside0.mk (Env.frame w k wh n A c L (.slice A1 lx.length c1) (.slice A2 ly.length c2))
    generalize hW : Env.world w k wh n A c L (.slice A1 lx.length c1) (.slice A2 ly.length c2) = W at hws HF HE
    rw [show (((w.alloc (.cells #[.int .i64 k, .int .i64 wh, .int .i64 n, .slice A L.length c] 45)).alloc (.cells #[.slice A1 lx.length c1] 40)).alloc (.cells #[.slice A2 ly.length c2] 40)).drew.drew = W from hW]
    clear hW
    have HT1 := Aside0.mk (HT.out.fr HF.out)
    have he0 := (blk_cell HE.out.b 0).trans (show _ = some (Value.int .i64 k) from rfl)
    have he2 := (blk_cell HE.out.b 2).trans (show _ = some (Value.int .i64 n) from rfl)
    have he3 := (blk_cell HE.out.b 3).trans (show _ = some (Value.slice A L.length c) from rfl)
    have hep := (blk_cell HE.out.p 0).trans (show _ = some (Value.slice A1 lx.length c1) from rfl)
    have heq := (blk_cell HE.out.q 0).trans (show _ = some (Value.slice A2 ly.length c2) from rfl)
    have hlx : lx.length ≤ 1048576 := len_le HD.out.rl HD.out.nl
    have hly : ly.length ≤ 1048576 := len_le HD.out.rm HD.out.nm
    have hsz1 : top ≤ W.heap.size := by omega
    have HF1 := Aside0.mk (HF.out.mono (T := fun k => top ≤ k) (fun _ hf => hf.elim))
    go_wp2_with (fail)
    refine (radd_calls _ 0 _ lx ly A2 c2 HT1.out.rx (Nat.zero_le _) HD.out.rl HD.out.nl (R_C HT1.out.ry) HT1.out.fresh).mono ?_
    rintro e W2 ⟨v1, l1, hR, hF3, (⟨_, hinv, rfl⟩ | ⟨⟨y, hy, hb⟩, _⟩)⟩
    case inr => exact absurd (HD.out.nm y hy) (by rw [hb]; decide)
    obtain ⟨A3, c3, rfl⟩ := Kd.R_slice hR
    have HT3 := Aside0.mk (HT1.out.ref hF3 hR)
    have HE3 := Aside0.mk (HE.out.fr hF3)
    have HF3 := Aside0.mk (HF1.out.trans hF3 (fun _ _ hf => hf.elim))
    have HI := Aside0.mk hinv
    have hle := hinv.len
    clear hR hF3 hinv he0 he2 he3 hep heq
    have HZ := Aside0.mk (blk_new W2 (.cells #[.slice A3 l1.length c3] 40))
    have HE8 := Aside0.mk (HE3.out.fr ((Fr.refl (fun _ => False) _).alloc (.cells #[.slice A3 l1.length c3] 40)))
    have HE9 := Aside0.mk ((HE8.out.put 0 (.slice A3 l1.length c3)).fr (Fr.refl (fun _ => False) _).drew)
    have HT9 := Aside0.mk ((Two.put (i := 0) (v' := .slice A3 l1.length c3) (HT3.out.fr ((Fr.refl (fun _ => False) _).alloc (.cells #[.slice A3 l1.length c3] 40))) HE8.out.r).fr (Fr.refl (fun _ => False) _).drew)
    have ez := (blk_cell HZ.out 0).trans (show _ = some (Value.slice A3 l1.length c3) from rfl)
    have er := (blk_cell HE8.out.r 0).trans (show _ = some (Value.slice A1 lx.length c1) from rfl)
    have ef := blk_frozen HE8.out.r 0
    have HF9 := Aside0.mk (((HF3.out.alloc (.cells #[.slice A3 l1.length c3] 40)).set (g := gr) (o := 0) (.slice A3 l1.length c3) (fun _ => HD.out.tr)).drew)
    go_wp2_with (fail)
    go_region
    have hsz9 : top ≤ ((W2.alloc (.cells #[.slice A3 l1.length c3] 40)).setCell ⟨gr, 0, none⟩ (.slice A3 l1.length c3)).drew.heap.size := by have := HF9.out.size; omega
    generalize hW4 : ((W2.alloc (.cells #[.slice A3 l1.length c3] 40)).setCell ⟨gr, 0, none⟩ (.slice A3 l1.length c3)).drew = W4 at HE9 HT9 HF9 hsz9 ⊢
    clear hW4 ez er ef HZ HE8
    simp only [List.setIfInBounds_toArray, List.set_cons_zero] at HE9
    go_wp2_with (fail)
    refine (join_calls _ top g s lx top h t ly HT9.out.x HT9.out.y hsz9 HD.out.rl HD.out.nl HD.out.rm HD.out.nm).mono ?_
    rintro e W5 ⟨l', hinv2, rfl, hST⟩
    obtain rfl := add_same HI.out hinv2
    obtain ⟨s1, T5, hF5⟩ := HT9.out.turn hST
    have HE5 := HE9.out.turn HT9.out.x hST
    have HD5 := Aside0.mk (Duo.mk0 T5 HE5.a HE5.r HI.out.rise HD.out.rm HI.out.num HD.out.nm HD.out.ta HD.out.tr)
    have HF5 := Aside0.mk (HF9.out.trans hF5 (fun _ _ hf => hf))
    clear hinv2 hST T5 hF5 HE5
    go_wp2_with (fail)
    go_ret
    exact ⟨by first | rfl | simp, _, _, HD5.out, HF5.out⟩
  · have HE := Aside0.mk (Env.start w ga gr k wh n A c L (.slice A2 ly.length c2) (.slice A1 lx.length c1) HA.out HR.out)
    have hws := Env.size w k wh n A c L (.slice A2 ly.length c2) (.slice A1 lx.length c1)
    have HF := Aside0.mk (Env.frame w k wh n A c L (.slice A2 ly.length c2) (.slice A1 lx.length c1))
    generalize hW : Env.world w k wh n A c L (.slice A2 ly.length c2) (.slice A1 lx.length c1) = W at hws HF HE
    rw [show (((w.alloc (.cells #[.int .i64 k, .int .i64 wh, .int .i64 n, .slice A L.length c] 45)).alloc (.cells #[.slice A2 ly.length c2] 40)).alloc (.cells #[.slice A1 lx.length c1] 40)).drew.drew = W from hW]
    clear hW
    have HT1 := Aside0.mk (HT.out.fr HF.out)
    have he0 := (blk_cell HE.out.b 0).trans (show _ = some (Value.int .i64 k) from rfl)
    have he2 := (blk_cell HE.out.b 2).trans (show _ = some (Value.int .i64 n) from rfl)
    have he3 := (blk_cell HE.out.b 3).trans (show _ = some (Value.slice A L.length c) from rfl)
    have hep := (blk_cell HE.out.q 0).trans (show _ = some (Value.slice A1 lx.length c1) from rfl)
    have heq := (blk_cell HE.out.p 0).trans (show _ = some (Value.slice A2 ly.length c2) from rfl)
    have hlx : lx.length ≤ 1048576 := len_le HD.out.rl HD.out.nl
    have hly : ly.length ≤ 1048576 := len_le HD.out.rm HD.out.nm
    have hsz1 : top ≤ W.heap.size := by omega
    have HF1 := Aside0.mk (HF.out.mono (T := fun k => top ≤ k) (fun _ hf => hf.elim))
    go_wp2_with (fail)
    refine (radd_calls _ 0 _ lx ly A2 c2 HT1.out.rx (Nat.zero_le _) HD.out.rl HD.out.nl (R_C HT1.out.ry) HT1.out.fresh).mono ?_
    rintro e W2 ⟨v1, l1, hR, hF3, (⟨_, hinv, rfl⟩ | ⟨⟨y, hy, hb⟩, _⟩)⟩
    case inr => exact absurd (HD.out.nm y hy) (by rw [hb]; decide)
    obtain ⟨A3, c3, rfl⟩ := Kd.R_slice hR
    have HT3 := Aside0.mk (HT1.out.ref hF3 hR)
    have HE3 := Aside0.mk (HE.out.fr hF3)
    have HF3 := Aside0.mk (HF1.out.trans hF3 (fun _ _ hf => hf.elim))
    have HI := Aside0.mk hinv
    have hle := hinv.len
    clear hR hF3 hinv he0 he2 he3 hep heq
    have HZ := Aside0.mk (blk_new W2 (.cells #[.slice A3 l1.length c3] 40))
    have HE8 := Aside0.mk (HE3.out.fr ((Fr.refl (fun _ => False) _).alloc (.cells #[.slice A3 l1.length c3] 40)))
    have HE9 := Aside0.mk ((HE8.out.put 0 (.slice A3 l1.length c3)).fr (Fr.refl (fun _ => False) _).drew)
    have HT9 := Aside0.mk ((Two.put (i := 0) (v' := .slice A3 l1.length c3) (HT3.out.fr ((Fr.refl (fun _ => False) _).alloc (.cells #[.slice A3 l1.length c3] 40))) HE8.out.r).fr (Fr.refl (fun _ => False) _).drew)
    have ez := (blk_cell HZ.out 0).trans (show _ = some (Value.slice A3 l1.length c3) from rfl)
    have er := (blk_cell HE8.out.r 0).trans (show _ = some (Value.slice A1 lx.length c1) from rfl)
    have ef := blk_frozen HE8.out.r 0
    have HF9 := Aside0.mk (((HF3.out.alloc (.cells #[.slice A3 l1.length c3] 40)).set (g := gr) (o := 0) (.slice A3 l1.length c3) (fun _ => HD.out.tr)).drew)
    go_wp2_with (fail)
    go_region
    have hsz9 : top ≤ ((W2.alloc (.cells #[.slice A3 l1.length c3] 40)).setCell ⟨gr, 0, none⟩ (.slice A3 l1.length c3)).drew.heap.size := by have := HF9.out.size; omega
    generalize hW4 : ((W2.alloc (.cells #[.slice A3 l1.length c3] 40)).setCell ⟨gr, 0, none⟩ (.slice A3 l1.length c3)).drew = W4 at HE9 HT9 HF9 hsz9 ⊢
    clear hW4 ez er ef HZ HE8
    simp only [List.setIfInBounds_toArray, List.set_cons_zero] at HE9
    go_wp2_with (fail)
    refine (join_calls _ top g s lx top h t ly HT9.out.x HT9.out.y hsz9 HD.out.rl HD.out.nl HD.out.rm HD.out.nm).mono ?_
    rintro e W5 ⟨l', hinv2, rfl, hST⟩
    obtain rfl := add_same HI.out hinv2
    obtain ⟨s1, T5, hF5⟩ := HT9.out.turn hST
    have HE5 := HE9.out.turn HT9.out.x hST
    have HD5 := Aside0.mk (Duo.mk0 T5 HE5.a HE5.r HI.out.rise HD.out.rm HI.out.num HD.out.nm HD.out.ta HD.out.tr)
    have HF5 := Aside0.mk (HF9.out.trans hF5 (fun _ _ hf => hf))
    clear hinv2 hST T5 hF5 HE5
    go_wp2_with (fail)
    go_ret
    exact ⟨by first | rfl | simp, _, _, HD5.out, HF5.out⟩

set_option maxRecDepth 100000 in
set_option maxHeartbeats 4000000 in
theorem does_0_4 (w : World) (top ga gr : Nat) (k wh n : Int) (A : Option Addr) (c : Nat) (L lx ly : List Int) (D : Duo w top ga gr lx ly) (hsz : top ≤ w.heap.size) (hwh : bits BinOp.and IntKind.i64 wh 1 = 0) (hk : (wrap64 (k.tmod 9 + 9)).tmod 9 = 4)
    (hC : kI.C w A L.length L) (hlt : ∀ ad, A = some ad → 0 < L.length → ad.block < top) (hT : Tab w) :
    Calls Tryd.prog 19 #[.pointer (some ⟨ga, 0, none⟩), .pointer (some ⟨gr, 0, none⟩), .agg #[.int .i64 k, .int .i64 wh, .int .i64 n, .slice A L.length c]] w (DoPost w top ga gr) := by
  obtain ⟨g, h, s, t, v, u, T0, ha, hr⟩ := D.ex
  have T : Two w top g h s t v u lx ly lx ly := T0
  obtain ⟨A1, c1, rfl⟩ := Kd.R_slice T.rx
  obtain ⟨A2, c2, rfl⟩ := Kd.R_slice T.ry
  have hu := Tryd.underlying45
  have hu2 := Tryd.underlying38
  have hu3 := Tryd.underlying43
  have hu4 := Tryd.underlying40
  have hb := blk_new w (.cells #[.int .i64 k, .int .i64 wh, .int .i64 n, .slice A L.length c] 45)
  have hcb0 := (blk_cell hb 0).trans (show _ = some (Value.int .i64 k) from rfl)
  have hcb1 := (blk_cell hb 1).trans (show _ = some (Value.int .i64 wh) from rfl)
  have hcb2 := (blk_cell hb 2).trans (show _ = some (Value.int .i64 n) from rfl)
  have hcb3 := (blk_cell hb 3).trans (show _ = some (Value.slice A L.length c) from rfl)
  have hca := (blk_cell (blk_alloc ha (.cells #[.int .i64 k, .int .i64 wh, .int .i64 n, .slice A L.length c] 45)) 0).trans (show _ = some (Value.pointer (some ⟨g, 0, none⟩)) from rfl)
  have hcc := (blk_cell (blk_alloc ha (.cells #[.int .i64 k, .int .i64 wh, .int .i64 n, .slice A L.length c] 45)) 1).trans (show _ = some (Value.pointer (some ⟨h, 0, none⟩)) from rfl)
  have hra : ∀ X Y : Array Value, (((w.alloc (.cells #[.int .i64 k, .int .i64 wh, .int .i64 n, .slice A L.length c] 45)).alloc (.cells X 40)).alloc (.cells Y 40)).cell? ⟨gr, 0, none⟩ = some (.slice A1 lx.length c1) := fun X Y => (blk_cell (blk_alloc (blk_alloc (blk_alloc hr _) _) _) 0).trans rfl
  have hrc : ∀ X Y : Array Value, (((w.alloc (.cells #[.int .i64 k, .int .i64 wh, .int .i64 n, .slice A L.length c] 45)).alloc (.cells X 40)).alloc (.cells Y 40)).cell? ⟨gr, 1, none⟩ = some (.slice A2 ly.length c2) := fun X Y => (blk_cell (blk_alloc (blk_alloc (blk_alloc hr _) _) _) 1).trans rfl
  have hra2 : ∀ X : Array Value, ((w.alloc (.cells #[.int .i64 k, .int .i64 wh, .int .i64 n, .slice A L.length c] 45)).alloc (.cells X 40)).cell? ⟨gr, 0, none⟩ = some (.slice A1 lx.length c1) := fun X => (blk_cell (blk_alloc (blk_alloc hr _) _) 0).trans rfl
  have hrc2 : ∀ X : Array Value, ((w.alloc (.cells #[.int .i64 k, .int .i64 wh, .int .i64 n, .slice A L.length c] 45)).alloc (.cells X 40)).cell? ⟨gr, 1, none⟩ = some (.slice A2 ly.length c2) := fun X => (blk_cell (blk_alloc (blk_alloc hr _) _) 1).trans rfl
  have hra1 := (blk_cell (blk_alloc hr (.cells #[.int .i64 k, .int .i64 wh, .int .i64 n, .slice A L.length c] 45)) 0).trans (show _ = some (Value.slice A1 lx.length c1) from rfl)
  have hrc1 := (blk_cell (blk_alloc hr (.cells #[.int .i64 k, .int .i64 wh, .int .i64 n, .slice A L.length c] 45)) 1).trans (show _ = some (Value.slice A2 ly.length c2) from rfl)
  have HA := Aside0.mk ha
  have HR := Aside0.mk hr
  have HT := Aside0.mk T
  have HD := Aside0.mk D
  have HC := Aside0.mk hC
  have HLT := Aside0.mk hlt
  have HTAB := Aside0.mk hT
  clear ha hr hb T T0 D hC hlt hT
  go_enter Tryd.func19, Tryd.ntmps19
  go_wp2_with (fail)
  go_region
  all_goals go_wp2_with (fail)
  all_goals go_region
  all_goals clear hcb0 hcb1 hcb2 hcb3 hca hcc hra hrc hra1 hrc1 hra2 hrc2
  · have HE := Aside0.mk (Env.start w ga gr k wh n A c L (.slice A1 lx.length c1) (.slice A2 ly.length c2) HA.out HR.out)
    have hws := Env.size w k wh n A c L (.slice A1 lx.length c1) (.slice A2 ly.length c2)
    have HF := Aside0.mk (Env.frame w k wh n A c L (.slice A1 lx.length c1) (.slice A2 ly.length c2))
    generalize hW : Env.world w k wh n A c L (.slice A1 lx.length c1) (.slice A2 ly.length c2) = W at hws HF HE
    rw [show (((w.alloc (.cells #[.int .i64 k, .int .i64 wh, .int .i64 n, .slice A L.length c] 45)).alloc (.cells #[.slice A1 lx.length c1] 40)).alloc (.cells #[.slice A2 ly.length c2] 40)).drew.drew = W from hW]
    clear hW
    have HT1 := Aside0.mk (HT.out.fr HF.out)
    have he0 := (blk_cell HE.out.b 0).trans (show _ = some (Value.int .i64 k) from rfl)
    have he2 := (blk_cell HE.out.b 2).trans (show _ = some (Value.int .i64 n) from rfl)
    have he3 := (blk_cell HE.out.b 3).trans (show _ = some (Value.slice A L.length c) from rfl)
    have hep := (blk_cell HE.out.p 0).trans (show _ = some (Value.slice A1 lx.length c1) from rfl)
    have heq := (blk_cell HE.out.q 0).trans (show _ = some (Value.slice A2 ly.length c2) from rfl)
    have hlx : lx.length ≤ 1048576 := len_le HD.out.rl HD.out.nl
    have hly : ly.length ≤ 1048576 := len_le HD.out.rm HD.out.nm
    have hsz1 : top ≤ W.heap.size := by omega
    go_wp2_with (fail)
    have HF1 := Aside0.mk HF.out.drew
    have HT1 := Aside0.mk (HT.out.fr HF1.out)
    have HE1 := Aside0.mk (HE.out.fr (Fr.refl _ _).drew)
    go_region_held3 (fun w' => w'.cell? ⟨w.heap.size, 2, none⟩ = some (.int .i64 n) ∧ w'.cell? ⟨w.heap.size + 1, 0, none⟩ = some (.slice A1 lx.length c1) ∧ w'.cell? ⟨w.heap.size + 1 + 1, 0, none⟩ = some (.slice A2 ly.length c2)) (go_keep)
      (first | (go_at_call 15; refine (meets_calls _ top g s lx top h t ly HT1.out.x HT1.out.y HD.out.rm (by omega)).mono ?_; rintro e W2 ⟨rfl, hd⟩; have HF2 := Aside0.mk (HF1.out.trans (Fr.drawn (S := fun _ => False) hd) (fun _ _ hf => hf)); have HT2 := Aside0.mk (HT.out.fr HF2.out); have HE2 := Aside0.mk (HE1.out.fr (Fr.drawn (S := fun _ => False) hd)); have f1n := (blk_cell HE2.out.b 2).trans (show _ = some (Value.int .i64 n) from rfl); have f1p := (blk_cell HE2.out.p 0).trans (show _ = some (Value.slice A1 lx.length c1) from rfl); have f1q := (blk_cell HE2.out.q 0).trans (show _ = some (Value.slice A2 ly.length c2) from rfl); clear hd) | (go_at_call 41; refine (rmeets_calls _ lx ly A1 c1 A2 c2 (R_C HT2.out.rx) (R_C HT2.out.ry)).mono ?_; rintro e W3 ⟨rfl, hd⟩; have HF3 := Aside0.mk (HF2.out.trans (hd) (fun _ _ hf => hf)); have HT3 := Aside0.mk (HT.out.fr HF3.out); have HE3 := Aside0.mk (HE2.out.fr (hd)); have f2n := (blk_cell HE3.out.b 2).trans (show _ = some (Value.int .i64 n) from rfl); have f2p := (blk_cell HE3.out.p 0).trans (show _ = some (Value.slice A1 lx.length c1) from rfl); have f2q := (blk_cell HE3.out.q 0).trans (show _ = some (Value.slice A2 ly.length c2) from rfl); clear hd))
    all_goals go_wp2_with (fail)
    all_goals go_ret
    all_goals exact Duo.done HD.out HF3.out (by first | rfl | simp)
  · have HE := Aside0.mk (Env.start w ga gr k wh n A c L (.slice A2 ly.length c2) (.slice A1 lx.length c1) HA.out HR.out)
    have hws := Env.size w k wh n A c L (.slice A2 ly.length c2) (.slice A1 lx.length c1)
    have HF := Aside0.mk (Env.frame w k wh n A c L (.slice A2 ly.length c2) (.slice A1 lx.length c1))
    generalize hW : Env.world w k wh n A c L (.slice A2 ly.length c2) (.slice A1 lx.length c1) = W at hws HF HE
    rw [show (((w.alloc (.cells #[.int .i64 k, .int .i64 wh, .int .i64 n, .slice A L.length c] 45)).alloc (.cells #[.slice A2 ly.length c2] 40)).alloc (.cells #[.slice A1 lx.length c1] 40)).drew.drew = W from hW]
    clear hW
    have HT1 := Aside0.mk (HT.out.fr HF.out)
    have he0 := (blk_cell HE.out.b 0).trans (show _ = some (Value.int .i64 k) from rfl)
    have he2 := (blk_cell HE.out.b 2).trans (show _ = some (Value.int .i64 n) from rfl)
    have he3 := (blk_cell HE.out.b 3).trans (show _ = some (Value.slice A L.length c) from rfl)
    have hep := (blk_cell HE.out.q 0).trans (show _ = some (Value.slice A1 lx.length c1) from rfl)
    have heq := (blk_cell HE.out.p 0).trans (show _ = some (Value.slice A2 ly.length c2) from rfl)
    have hlx : lx.length ≤ 1048576 := len_le HD.out.rl HD.out.nl
    have hly : ly.length ≤ 1048576 := len_le HD.out.rm HD.out.nm
    have hsz1 : top ≤ W.heap.size := by omega
    go_wp2_with (fail)
    have HF1 := Aside0.mk HF.out.drew
    have HT1 := Aside0.mk (HT.out.fr HF1.out)
    have HE1 := Aside0.mk (HE.out.fr (Fr.refl _ _).drew)
    go_region_held3 (fun w' => w'.cell? ⟨w.heap.size, 2, none⟩ = some (.int .i64 n) ∧ w'.cell? ⟨w.heap.size + 1 + 1, 0, none⟩ = some (.slice A1 lx.length c1) ∧ w'.cell? ⟨w.heap.size + 1, 0, none⟩ = some (.slice A2 ly.length c2)) (go_keep)
      (first | (go_at_call 15; refine (meets_calls _ top g s lx top h t ly HT1.out.x HT1.out.y HD.out.rm (by omega)).mono ?_; rintro e W2 ⟨rfl, hd⟩; have HF2 := Aside0.mk (HF1.out.trans (Fr.drawn (S := fun _ => False) hd) (fun _ _ hf => hf)); have HT2 := Aside0.mk (HT.out.fr HF2.out); have HE2 := Aside0.mk (HE1.out.fr (Fr.drawn (S := fun _ => False) hd)); have f1n := (blk_cell HE2.out.b 2).trans (show _ = some (Value.int .i64 n) from rfl); have f1p := (blk_cell HE2.out.q 0).trans (show _ = some (Value.slice A1 lx.length c1) from rfl); have f1q := (blk_cell HE2.out.p 0).trans (show _ = some (Value.slice A2 ly.length c2) from rfl); clear hd) | (go_at_call 41; refine (rmeets_calls _ lx ly A1 c1 A2 c2 (R_C HT2.out.rx) (R_C HT2.out.ry)).mono ?_; rintro e W3 ⟨rfl, hd⟩; have HF3 := Aside0.mk (HF2.out.trans (hd) (fun _ _ hf => hf)); have HT3 := Aside0.mk (HT.out.fr HF3.out); have HE3 := Aside0.mk (HE2.out.fr (hd)); have f2n := (blk_cell HE3.out.b 2).trans (show _ = some (Value.int .i64 n) from rfl); have f2p := (blk_cell HE3.out.q 0).trans (show _ = some (Value.slice A1 lx.length c1) from rfl); have f2q := (blk_cell HE3.out.p 0).trans (show _ = some (Value.slice A2 ly.length c2) from rfl); clear hd))
    all_goals go_wp2_with (fail)
    all_goals go_ret
    all_goals exact Duo.done HD.out HF3.out (by first | rfl | simp)

set_option maxRecDepth 100000 in
set_option maxHeartbeats 4000000 in
theorem does_0_5 (w : World) (top ga gr : Nat) (k wh n : Int) (A : Option Addr) (c : Nat) (L lx ly : List Int) (D : Duo w top ga gr lx ly) (hsz : top ≤ w.heap.size) (hwh : bits BinOp.and IntKind.i64 wh 1 = 0) (hk : (wrap64 (k.tmod 9 + 9)).tmod 9 = 5)
    (hC : kI.C w A L.length L) (hlt : ∀ ad, A = some ad → 0 < L.length → ad.block < top) (hT : Tab w) :
    Calls Tryd.prog 19 #[.pointer (some ⟨ga, 0, none⟩), .pointer (some ⟨gr, 0, none⟩), .agg #[.int .i64 k, .int .i64 wh, .int .i64 n, .slice A L.length c]] w (DoPost w top ga gr) := by
  obtain ⟨g, h, s, t, v, u, T0, ha, hr⟩ := D.ex
  have T : Two w top g h s t v u lx ly lx ly := T0
  obtain ⟨A1, c1, rfl⟩ := Kd.R_slice T.rx
  obtain ⟨A2, c2, rfl⟩ := Kd.R_slice T.ry
  have hu := Tryd.underlying45
  have hu2 := Tryd.underlying38
  have hu3 := Tryd.underlying43
  have hu4 := Tryd.underlying40
  have hb := blk_new w (.cells #[.int .i64 k, .int .i64 wh, .int .i64 n, .slice A L.length c] 45)
  have hcb0 := (blk_cell hb 0).trans (show _ = some (Value.int .i64 k) from rfl)
  have hcb1 := (blk_cell hb 1).trans (show _ = some (Value.int .i64 wh) from rfl)
  have hcb2 := (blk_cell hb 2).trans (show _ = some (Value.int .i64 n) from rfl)
  have hcb3 := (blk_cell hb 3).trans (show _ = some (Value.slice A L.length c) from rfl)
  have hca := (blk_cell (blk_alloc ha (.cells #[.int .i64 k, .int .i64 wh, .int .i64 n, .slice A L.length c] 45)) 0).trans (show _ = some (Value.pointer (some ⟨g, 0, none⟩)) from rfl)
  have hcc := (blk_cell (blk_alloc ha (.cells #[.int .i64 k, .int .i64 wh, .int .i64 n, .slice A L.length c] 45)) 1).trans (show _ = some (Value.pointer (some ⟨h, 0, none⟩)) from rfl)
  have hra : ∀ X Y : Array Value, (((w.alloc (.cells #[.int .i64 k, .int .i64 wh, .int .i64 n, .slice A L.length c] 45)).alloc (.cells X 40)).alloc (.cells Y 40)).cell? ⟨gr, 0, none⟩ = some (.slice A1 lx.length c1) := fun X Y => (blk_cell (blk_alloc (blk_alloc (blk_alloc hr _) _) _) 0).trans rfl
  have hrc : ∀ X Y : Array Value, (((w.alloc (.cells #[.int .i64 k, .int .i64 wh, .int .i64 n, .slice A L.length c] 45)).alloc (.cells X 40)).alloc (.cells Y 40)).cell? ⟨gr, 1, none⟩ = some (.slice A2 ly.length c2) := fun X Y => (blk_cell (blk_alloc (blk_alloc (blk_alloc hr _) _) _) 1).trans rfl
  have hra2 : ∀ X : Array Value, ((w.alloc (.cells #[.int .i64 k, .int .i64 wh, .int .i64 n, .slice A L.length c] 45)).alloc (.cells X 40)).cell? ⟨gr, 0, none⟩ = some (.slice A1 lx.length c1) := fun X => (blk_cell (blk_alloc (blk_alloc hr _) _) 0).trans rfl
  have hrc2 : ∀ X : Array Value, ((w.alloc (.cells #[.int .i64 k, .int .i64 wh, .int .i64 n, .slice A L.length c] 45)).alloc (.cells X 40)).cell? ⟨gr, 1, none⟩ = some (.slice A2 ly.length c2) := fun X => (blk_cell (blk_alloc (blk_alloc hr _) _) 1).trans rfl
  have hra1 := (blk_cell (blk_alloc hr (.cells #[.int .i64 k, .int .i64 wh, .int .i64 n, .slice A L.length c] 45)) 0).trans (show _ = some (Value.slice A1 lx.length c1) from rfl)
  have hrc1 := (blk_cell (blk_alloc hr (.cells #[.int .i64 k, .int .i64 wh, .int .i64 n, .slice A L.length c] 45)) 1).trans (show _ = some (Value.slice A2 ly.length c2) from rfl)
  have HA := Aside0.mk ha
  have HR := Aside0.mk hr
  have HT := Aside0.mk T
  have HD := Aside0.mk D
  have HC := Aside0.mk hC
  have HLT := Aside0.mk hlt
  have HTAB := Aside0.mk hT
  clear ha hr hb T T0 D hC hlt hT
  go_enter Tryd.func19, Tryd.ntmps19
  go_wp2_with (fail)
  go_region
  all_goals go_wp2_with (fail)
  all_goals go_region
  all_goals clear hcb0 hcb1 hcb2 hcb3 hca hcc hra hrc hra1 hrc1 hra2 hrc2
  · have HE := Aside0.mk (Env.start w ga gr k wh n A c L (.slice A1 lx.length c1) (.slice A2 ly.length c2) HA.out HR.out)
    have hws := Env.size w k wh n A c L (.slice A1 lx.length c1) (.slice A2 ly.length c2)
    have HF := Aside0.mk (Env.frame w k wh n A c L (.slice A1 lx.length c1) (.slice A2 ly.length c2))
    generalize hW : Env.world w k wh n A c L (.slice A1 lx.length c1) (.slice A2 ly.length c2) = W at hws HF HE
    rw [show (((w.alloc (.cells #[.int .i64 k, .int .i64 wh, .int .i64 n, .slice A L.length c] 45)).alloc (.cells #[.slice A1 lx.length c1] 40)).alloc (.cells #[.slice A2 ly.length c2] 40)).drew.drew = W from hW]
    clear hW
    have HT1 := Aside0.mk (HT.out.fr HF.out)
    have he0 := (blk_cell HE.out.b 0).trans (show _ = some (Value.int .i64 k) from rfl)
    have he2 := (blk_cell HE.out.b 2).trans (show _ = some (Value.int .i64 n) from rfl)
    have he3 := (blk_cell HE.out.b 3).trans (show _ = some (Value.slice A L.length c) from rfl)
    have hep := (blk_cell HE.out.p 0).trans (show _ = some (Value.slice A1 lx.length c1) from rfl)
    have heq := (blk_cell HE.out.q 0).trans (show _ = some (Value.slice A2 ly.length c2) from rfl)
    have hlx : lx.length ≤ 1048576 := len_le HD.out.rl HD.out.nl
    have hly : ly.length ≤ 1048576 := len_le HD.out.rm HD.out.nm
    have hsz1 : top ≤ W.heap.size := by omega
    go_wp2_with (fail)
    have HF1 := Aside0.mk HF.out.drew
    have HT1 := Aside0.mk (HT.out.fr HF1.out)
    have HE1 := Aside0.mk (HE.out.fr (Fr.refl _ _).drew)
    go_region_held3 (fun w' => w'.cell? ⟨w.heap.size, 2, none⟩ = some (.int .i64 n) ∧ w'.cell? ⟨w.heap.size + 1, 0, none⟩ = some (.slice A1 lx.length c1) ∧ w'.cell? ⟨w.heap.size + 1 + 1, 0, none⟩ = some (.slice A2 ly.length c2)) (go_keep)
      (first | (go_at_call 14; refine (within_calls _ top g s lx top h t ly HT1.out.x HT1.out.y HD.out.rm (by omega)).mono ?_; rintro e W2 ⟨rfl, hd⟩; have HF2 := Aside0.mk (HF1.out.trans (Fr.drawn (S := fun _ => False) hd) (fun _ _ hf => hf)); have HT2 := Aside0.mk (HT.out.fr HF2.out); have HE2 := Aside0.mk (HE1.out.fr (Fr.drawn (S := fun _ => False) hd)); have f1n := (blk_cell HE2.out.b 2).trans (show _ = some (Value.int .i64 n) from rfl); have f1p := (blk_cell HE2.out.p 0).trans (show _ = some (Value.slice A1 lx.length c1) from rfl); have f1q := (blk_cell HE2.out.q 0).trans (show _ = some (Value.slice A2 ly.length c2) from rfl); clear hd) | (go_at_call 42; refine (rwithin_calls _ lx ly A1 c1 A2 c2 (R_C HT2.out.rx) (R_C HT2.out.ry)).mono ?_; rintro e W3 ⟨rfl, hd⟩; have HF3 := Aside0.mk (HF2.out.trans (hd) (fun _ _ hf => hf)); have HT3 := Aside0.mk (HT.out.fr HF3.out); have HE3 := Aside0.mk (HE2.out.fr (hd)); have f2n := (blk_cell HE3.out.b 2).trans (show _ = some (Value.int .i64 n) from rfl); have f2p := (blk_cell HE3.out.p 0).trans (show _ = some (Value.slice A1 lx.length c1) from rfl); have f2q := (blk_cell HE3.out.q 0).trans (show _ = some (Value.slice A2 ly.length c2) from rfl); clear hd))
    all_goals go_wp2_with (fail)
    all_goals go_ret
    all_goals exact Duo.done HD.out HF3.out (by first | rfl | simp)
  · have HE := Aside0.mk (Env.start w ga gr k wh n A c L (.slice A2 ly.length c2) (.slice A1 lx.length c1) HA.out HR.out)
    have hws := Env.size w k wh n A c L (.slice A2 ly.length c2) (.slice A1 lx.length c1)
    have HF := Aside0.mk (Env.frame w k wh n A c L (.slice A2 ly.length c2) (.slice A1 lx.length c1))
    generalize hW : Env.world w k wh n A c L (.slice A2 ly.length c2) (.slice A1 lx.length c1) = W at hws HF HE
    rw [show (((w.alloc (.cells #[.int .i64 k, .int .i64 wh, .int .i64 n, .slice A L.length c] 45)).alloc (.cells #[.slice A2 ly.length c2] 40)).alloc (.cells #[.slice A1 lx.length c1] 40)).drew.drew = W from hW]
    clear hW
    have HT1 := Aside0.mk (HT.out.fr HF.out)
    have he0 := (blk_cell HE.out.b 0).trans (show _ = some (Value.int .i64 k) from rfl)
    have he2 := (blk_cell HE.out.b 2).trans (show _ = some (Value.int .i64 n) from rfl)
    have he3 := (blk_cell HE.out.b 3).trans (show _ = some (Value.slice A L.length c) from rfl)
    have hep := (blk_cell HE.out.q 0).trans (show _ = some (Value.slice A1 lx.length c1) from rfl)
    have heq := (blk_cell HE.out.p 0).trans (show _ = some (Value.slice A2 ly.length c2) from rfl)
    have hlx : lx.length ≤ 1048576 := len_le HD.out.rl HD.out.nl
    have hly : ly.length ≤ 1048576 := len_le HD.out.rm HD.out.nm
    have hsz1 : top ≤ W.heap.size := by omega
    go_wp2_with (fail)
    have HF1 := Aside0.mk HF.out.drew
    have HT1 := Aside0.mk (HT.out.fr HF1.out)
    have HE1 := Aside0.mk (HE.out.fr (Fr.refl _ _).drew)
    go_region_held3 (fun w' => w'.cell? ⟨w.heap.size, 2, none⟩ = some (.int .i64 n) ∧ w'.cell? ⟨w.heap.size + 1 + 1, 0, none⟩ = some (.slice A1 lx.length c1) ∧ w'.cell? ⟨w.heap.size + 1, 0, none⟩ = some (.slice A2 ly.length c2)) (go_keep)
      (first | (go_at_call 14; refine (within_calls _ top g s lx top h t ly HT1.out.x HT1.out.y HD.out.rm (by omega)).mono ?_; rintro e W2 ⟨rfl, hd⟩; have HF2 := Aside0.mk (HF1.out.trans (Fr.drawn (S := fun _ => False) hd) (fun _ _ hf => hf)); have HT2 := Aside0.mk (HT.out.fr HF2.out); have HE2 := Aside0.mk (HE1.out.fr (Fr.drawn (S := fun _ => False) hd)); have f1n := (blk_cell HE2.out.b 2).trans (show _ = some (Value.int .i64 n) from rfl); have f1p := (blk_cell HE2.out.q 0).trans (show _ = some (Value.slice A1 lx.length c1) from rfl); have f1q := (blk_cell HE2.out.p 0).trans (show _ = some (Value.slice A2 ly.length c2) from rfl); clear hd) | (go_at_call 42; refine (rwithin_calls _ lx ly A1 c1 A2 c2 (R_C HT2.out.rx) (R_C HT2.out.ry)).mono ?_; rintro e W3 ⟨rfl, hd⟩; have HF3 := Aside0.mk (HF2.out.trans (hd) (fun _ _ hf => hf)); have HT3 := Aside0.mk (HT.out.fr HF3.out); have HE3 := Aside0.mk (HE2.out.fr (hd)); have f2n := (blk_cell HE3.out.b 2).trans (show _ = some (Value.int .i64 n) from rfl); have f2p := (blk_cell HE3.out.q 0).trans (show _ = some (Value.slice A1 lx.length c1) from rfl); have f2q := (blk_cell HE3.out.p 0).trans (show _ = some (Value.slice A2 ly.length c2) from rfl); clear hd))
    all_goals go_wp2_with (fail)
    all_goals go_ret
    all_goals exact Duo.done HD.out HF3.out (by first | rfl | simp)

set_option maxRecDepth 100000 in
set_option maxHeartbeats 4000000 in
theorem does_0_6 (w : World) (top ga gr : Nat) (k wh n : Int) (A : Option Addr) (c : Nat) (L lx ly : List Int) (D : Duo w top ga gr lx ly) (hsz : top ≤ w.heap.size) (hwh : bits BinOp.and IntKind.i64 wh 1 = 0) (hk : (wrap64 (k.tmod 9 + 9)).tmod 9 = 6)
    (hC : kI.C w A L.length L) (hlt : ∀ ad, A = some ad → 0 < L.length → ad.block < top) (hT : Tab w) :
    Calls Tryd.prog 19 #[.pointer (some ⟨ga, 0, none⟩), .pointer (some ⟨gr, 0, none⟩), .agg #[.int .i64 k, .int .i64 wh, .int .i64 n, .slice A L.length c]] w (DoPost w top ga gr) := by
  obtain ⟨g, h, s, t, v, u, T0, ha, hr⟩ := D.ex
  have T : Two w top g h s t v u lx ly lx ly := T0
  obtain ⟨A1, c1, rfl⟩ := Kd.R_slice T.rx
  obtain ⟨A2, c2, rfl⟩ := Kd.R_slice T.ry
  have hu := Tryd.underlying45
  have hu2 := Tryd.underlying38
  have hu3 := Tryd.underlying43
  have hu4 := Tryd.underlying40
  have hb := blk_new w (.cells #[.int .i64 k, .int .i64 wh, .int .i64 n, .slice A L.length c] 45)
  have hcb0 := (blk_cell hb 0).trans (show _ = some (Value.int .i64 k) from rfl)
  have hcb1 := (blk_cell hb 1).trans (show _ = some (Value.int .i64 wh) from rfl)
  have hcb2 := (blk_cell hb 2).trans (show _ = some (Value.int .i64 n) from rfl)
  have hcb3 := (blk_cell hb 3).trans (show _ = some (Value.slice A L.length c) from rfl)
  have hca := (blk_cell (blk_alloc ha (.cells #[.int .i64 k, .int .i64 wh, .int .i64 n, .slice A L.length c] 45)) 0).trans (show _ = some (Value.pointer (some ⟨g, 0, none⟩)) from rfl)
  have hcc := (blk_cell (blk_alloc ha (.cells #[.int .i64 k, .int .i64 wh, .int .i64 n, .slice A L.length c] 45)) 1).trans (show _ = some (Value.pointer (some ⟨h, 0, none⟩)) from rfl)
  have hra : ∀ X Y : Array Value, (((w.alloc (.cells #[.int .i64 k, .int .i64 wh, .int .i64 n, .slice A L.length c] 45)).alloc (.cells X 40)).alloc (.cells Y 40)).cell? ⟨gr, 0, none⟩ = some (.slice A1 lx.length c1) := fun X Y => (blk_cell (blk_alloc (blk_alloc (blk_alloc hr _) _) _) 0).trans rfl
  have hrc : ∀ X Y : Array Value, (((w.alloc (.cells #[.int .i64 k, .int .i64 wh, .int .i64 n, .slice A L.length c] 45)).alloc (.cells X 40)).alloc (.cells Y 40)).cell? ⟨gr, 1, none⟩ = some (.slice A2 ly.length c2) := fun X Y => (blk_cell (blk_alloc (blk_alloc (blk_alloc hr _) _) _) 1).trans rfl
  have hra2 : ∀ X : Array Value, ((w.alloc (.cells #[.int .i64 k, .int .i64 wh, .int .i64 n, .slice A L.length c] 45)).alloc (.cells X 40)).cell? ⟨gr, 0, none⟩ = some (.slice A1 lx.length c1) := fun X => (blk_cell (blk_alloc (blk_alloc hr _) _) 0).trans rfl
  have hrc2 : ∀ X : Array Value, ((w.alloc (.cells #[.int .i64 k, .int .i64 wh, .int .i64 n, .slice A L.length c] 45)).alloc (.cells X 40)).cell? ⟨gr, 1, none⟩ = some (.slice A2 ly.length c2) := fun X => (blk_cell (blk_alloc (blk_alloc hr _) _) 1).trans rfl
  have hra1 := (blk_cell (blk_alloc hr (.cells #[.int .i64 k, .int .i64 wh, .int .i64 n, .slice A L.length c] 45)) 0).trans (show _ = some (Value.slice A1 lx.length c1) from rfl)
  have hrc1 := (blk_cell (blk_alloc hr (.cells #[.int .i64 k, .int .i64 wh, .int .i64 n, .slice A L.length c] 45)) 1).trans (show _ = some (Value.slice A2 ly.length c2) from rfl)
  have HA := Aside0.mk ha
  have HR := Aside0.mk hr
  have HT := Aside0.mk T
  have HD := Aside0.mk D
  have HC := Aside0.mk hC
  have HLT := Aside0.mk hlt
  have HTAB := Aside0.mk hT
  clear ha hr hb T T0 D hC hlt hT
  go_enter Tryd.func19, Tryd.ntmps19
  go_wp2_with (fail)
  go_region
  all_goals go_wp2_with (fail)
  all_goals go_region
  all_goals clear hcb0 hcb1 hcb2 hcb3 hca hcc hra hrc hra1 hrc1 hra2 hrc2
  · have HE := Aside0.mk (Env.start w ga gr k wh n A c L (.slice A1 lx.length c1) (.slice A2 ly.length c2) HA.out HR.out)
    have hws := Env.size w k wh n A c L (.slice A1 lx.length c1) (.slice A2 ly.length c2)
    have HF := Aside0.mk (Env.frame w k wh n A c L (.slice A1 lx.length c1) (.slice A2 ly.length c2))
    generalize hW : Env.world w k wh n A c L (.slice A1 lx.length c1) (.slice A2 ly.length c2) = W at hws HF HE
    rw [show (((w.alloc (.cells #[.int .i64 k, .int .i64 wh, .int .i64 n, .slice A L.length c] 45)).alloc (.cells #[.slice A1 lx.length c1] 40)).alloc (.cells #[.slice A2 ly.length c2] 40)).drew.drew = W from hW]
    clear hW
    have HT1 := Aside0.mk (HT.out.fr HF.out)
    have he0 := (blk_cell HE.out.b 0).trans (show _ = some (Value.int .i64 k) from rfl)
    have he2 := (blk_cell HE.out.b 2).trans (show _ = some (Value.int .i64 n) from rfl)
    have he3 := (blk_cell HE.out.b 3).trans (show _ = some (Value.slice A L.length c) from rfl)
    have hep := (blk_cell HE.out.p 0).trans (show _ = some (Value.slice A1 lx.length c1) from rfl)
    have heq := (blk_cell HE.out.q 0).trans (show _ = some (Value.slice A2 ly.length c2) from rfl)
    have hlx : lx.length ≤ 1048576 := len_le HD.out.rl HD.out.nl
    have hly : ly.length ≤ 1048576 := len_le HD.out.rm HD.out.nm
    have hsz1 : top ≤ W.heap.size := by omega
    go_wp2_with (fail)
    have HF1 := Aside0.mk HF.out.drew
    have HT1 := Aside0.mk (HT.out.fr HF1.out)
    have HE1 := Aside0.mk (HE.out.fr (Fr.refl _ _).drew)
    have HS := Lib.hid (same_dec HD.out.rl HD.out.rm : decide (lx.length = ly.length ∧ ∀ x, x ∈ lx → x ∈ ly) = decide (lx = ly))
    go_region_held3 (fun w' => w'.cell? ⟨w.heap.size, 2, none⟩ = some (.int .i64 n) ∧ w'.cell? ⟨w.heap.size + 1, 0, none⟩ = some (.slice A1 lx.length c1) ∧ w'.cell? ⟨w.heap.size + 1 + 1, 0, none⟩ = some (.slice A2 ly.length c2)) (go_keep)
      (first | (go_at_call 16; refine (samew_calls _ top g s lx top h t ly HT1.out.x HT1.out.y HD.out.rm (by omega)).mono ?_; rintro e W2 ⟨rfl, hd⟩; rw [HS.out]; have HF2 := Aside0.mk (HF1.out.trans (Fr.drawn (S := fun _ => False) hd) (fun _ _ hf => hf)); have HT2 := Aside0.mk (HT.out.fr HF2.out); have HE2 := Aside0.mk (HE1.out.fr (Fr.drawn (S := fun _ => False) hd)); have f1n := (blk_cell HE2.out.b 2).trans (show _ = some (Value.int .i64 n) from rfl); have f1p := (blk_cell HE2.out.p 0).trans (show _ = some (Value.slice A1 lx.length c1) from rfl); have f1q := (blk_cell HE2.out.q 0).trans (show _ = some (Value.slice A2 ly.length c2) from rfl); clear hd) | (go_at_call 20; refine (same_calls _ lx ly A1 A2 c1 c2 (R_C HT2.out.rx) (R_C HT2.out.ry)).mono ?_; rintro e W3 ⟨rfl, hd⟩; have HF3 := Aside0.mk (HF2.out.trans (Fr.drawn (S := fun _ => False) hd) (fun _ _ hf => hf)); have HT3 := Aside0.mk (HT.out.fr HF3.out); have HE3 := Aside0.mk (HE2.out.fr (Fr.drawn (S := fun _ => False) hd)); have f2n := (blk_cell HE3.out.b 2).trans (show _ = some (Value.int .i64 n) from rfl); have f2p := (blk_cell HE3.out.p 0).trans (show _ = some (Value.slice A1 lx.length c1) from rfl); have f2q := (blk_cell HE3.out.q 0).trans (show _ = some (Value.slice A2 ly.length c2) from rfl); clear hd))
    all_goals go_wp2_with (fail)
    all_goals go_ret
    all_goals exact Duo.done HD.out HF3.out (by first | rfl | simp)
  · have HE := Aside0.mk (Env.start w ga gr k wh n A c L (.slice A2 ly.length c2) (.slice A1 lx.length c1) HA.out HR.out)
    have hws := Env.size w k wh n A c L (.slice A2 ly.length c2) (.slice A1 lx.length c1)
    have HF := Aside0.mk (Env.frame w k wh n A c L (.slice A2 ly.length c2) (.slice A1 lx.length c1))
    generalize hW : Env.world w k wh n A c L (.slice A2 ly.length c2) (.slice A1 lx.length c1) = W at hws HF HE
    rw [show (((w.alloc (.cells #[.int .i64 k, .int .i64 wh, .int .i64 n, .slice A L.length c] 45)).alloc (.cells #[.slice A2 ly.length c2] 40)).alloc (.cells #[.slice A1 lx.length c1] 40)).drew.drew = W from hW]
    clear hW
    have HT1 := Aside0.mk (HT.out.fr HF.out)
    have he0 := (blk_cell HE.out.b 0).trans (show _ = some (Value.int .i64 k) from rfl)
    have he2 := (blk_cell HE.out.b 2).trans (show _ = some (Value.int .i64 n) from rfl)
    have he3 := (blk_cell HE.out.b 3).trans (show _ = some (Value.slice A L.length c) from rfl)
    have hep := (blk_cell HE.out.q 0).trans (show _ = some (Value.slice A1 lx.length c1) from rfl)
    have heq := (blk_cell HE.out.p 0).trans (show _ = some (Value.slice A2 ly.length c2) from rfl)
    have hlx : lx.length ≤ 1048576 := len_le HD.out.rl HD.out.nl
    have hly : ly.length ≤ 1048576 := len_le HD.out.rm HD.out.nm
    have hsz1 : top ≤ W.heap.size := by omega
    go_wp2_with (fail)
    have HF1 := Aside0.mk HF.out.drew
    have HT1 := Aside0.mk (HT.out.fr HF1.out)
    have HE1 := Aside0.mk (HE.out.fr (Fr.refl _ _).drew)
    have HS := Lib.hid (same_dec HD.out.rl HD.out.rm : decide (lx.length = ly.length ∧ ∀ x, x ∈ lx → x ∈ ly) = decide (lx = ly))
    go_region_held3 (fun w' => w'.cell? ⟨w.heap.size, 2, none⟩ = some (.int .i64 n) ∧ w'.cell? ⟨w.heap.size + 1 + 1, 0, none⟩ = some (.slice A1 lx.length c1) ∧ w'.cell? ⟨w.heap.size + 1, 0, none⟩ = some (.slice A2 ly.length c2)) (go_keep)
      (first | (go_at_call 16; refine (samew_calls _ top g s lx top h t ly HT1.out.x HT1.out.y HD.out.rm (by omega)).mono ?_; rintro e W2 ⟨rfl, hd⟩; rw [HS.out]; have HF2 := Aside0.mk (HF1.out.trans (Fr.drawn (S := fun _ => False) hd) (fun _ _ hf => hf)); have HT2 := Aside0.mk (HT.out.fr HF2.out); have HE2 := Aside0.mk (HE1.out.fr (Fr.drawn (S := fun _ => False) hd)); have f1n := (blk_cell HE2.out.b 2).trans (show _ = some (Value.int .i64 n) from rfl); have f1p := (blk_cell HE2.out.q 0).trans (show _ = some (Value.slice A1 lx.length c1) from rfl); have f1q := (blk_cell HE2.out.p 0).trans (show _ = some (Value.slice A2 ly.length c2) from rfl); clear hd) | (go_at_call 20; refine (same_calls _ lx ly A1 A2 c1 c2 (R_C HT2.out.rx) (R_C HT2.out.ry)).mono ?_; rintro e W3 ⟨rfl, hd⟩; have HF3 := Aside0.mk (HF2.out.trans (Fr.drawn (S := fun _ => False) hd) (fun _ _ hf => hf)); have HT3 := Aside0.mk (HT.out.fr HF3.out); have HE3 := Aside0.mk (HE2.out.fr (Fr.drawn (S := fun _ => False) hd)); have f2n := (blk_cell HE3.out.b 2).trans (show _ = some (Value.int .i64 n) from rfl); have f2p := (blk_cell HE3.out.q 0).trans (show _ = some (Value.slice A1 lx.length c1) from rfl); have f2q := (blk_cell HE3.out.p 0).trans (show _ = some (Value.slice A2 ly.length c2) from rfl); clear hd))
    all_goals go_wp2_with (fail)
    all_goals go_ret
    all_goals exact Duo.done HD.out HF3.out (by first | rfl | simp)

set_option maxRecDepth 100000 in
set_option maxHeartbeats 4000000 in
theorem does_0_7 (w : World) (top ga gr : Nat) (k wh n : Int) (A : Option Addr) (c : Nat) (L lx ly : List Int) (D : Duo w top ga gr lx ly) (hsz : top ≤ w.heap.size) (hwh : bits BinOp.and IntKind.i64 wh 1 = 0) (hk : (wrap64 (k.tmod 9 + 9)).tmod 9 = 7)
    (hC : kI.C w A L.length L) (hlt : ∀ ad, A = some ad → 0 < L.length → ad.block < top) (hT : Tab w) :
    Calls Tryd.prog 19 #[.pointer (some ⟨ga, 0, none⟩), .pointer (some ⟨gr, 0, none⟩), .agg #[.int .i64 k, .int .i64 wh, .int .i64 n, .slice A L.length c]] w (DoPost w top ga gr) := by
  obtain ⟨g, h, s, t, v, u, T0, ha, hr⟩ := D.ex
  have T : Two w top g h s t v u lx ly lx ly := T0
  obtain ⟨A1, c1, rfl⟩ := Kd.R_slice T.rx
  obtain ⟨A2, c2, rfl⟩ := Kd.R_slice T.ry
  have hu := Tryd.underlying45
  have hu2 := Tryd.underlying38
  have hu3 := Tryd.underlying43
  have hu4 := Tryd.underlying40
  have hb := blk_new w (.cells #[.int .i64 k, .int .i64 wh, .int .i64 n, .slice A L.length c] 45)
  have hcb0 := (blk_cell hb 0).trans (show _ = some (Value.int .i64 k) from rfl)
  have hcb1 := (blk_cell hb 1).trans (show _ = some (Value.int .i64 wh) from rfl)
  have hcb2 := (blk_cell hb 2).trans (show _ = some (Value.int .i64 n) from rfl)
  have hcb3 := (blk_cell hb 3).trans (show _ = some (Value.slice A L.length c) from rfl)
  have hca := (blk_cell (blk_alloc ha (.cells #[.int .i64 k, .int .i64 wh, .int .i64 n, .slice A L.length c] 45)) 0).trans (show _ = some (Value.pointer (some ⟨g, 0, none⟩)) from rfl)
  have hcc := (blk_cell (blk_alloc ha (.cells #[.int .i64 k, .int .i64 wh, .int .i64 n, .slice A L.length c] 45)) 1).trans (show _ = some (Value.pointer (some ⟨h, 0, none⟩)) from rfl)
  have hra : ∀ X Y : Array Value, (((w.alloc (.cells #[.int .i64 k, .int .i64 wh, .int .i64 n, .slice A L.length c] 45)).alloc (.cells X 40)).alloc (.cells Y 40)).cell? ⟨gr, 0, none⟩ = some (.slice A1 lx.length c1) := fun X Y => (blk_cell (blk_alloc (blk_alloc (blk_alloc hr _) _) _) 0).trans rfl
  have hrc : ∀ X Y : Array Value, (((w.alloc (.cells #[.int .i64 k, .int .i64 wh, .int .i64 n, .slice A L.length c] 45)).alloc (.cells X 40)).alloc (.cells Y 40)).cell? ⟨gr, 1, none⟩ = some (.slice A2 ly.length c2) := fun X Y => (blk_cell (blk_alloc (blk_alloc (blk_alloc hr _) _) _) 1).trans rfl
  have hra2 : ∀ X : Array Value, ((w.alloc (.cells #[.int .i64 k, .int .i64 wh, .int .i64 n, .slice A L.length c] 45)).alloc (.cells X 40)).cell? ⟨gr, 0, none⟩ = some (.slice A1 lx.length c1) := fun X => (blk_cell (blk_alloc (blk_alloc hr _) _) 0).trans rfl
  have hrc2 : ∀ X : Array Value, ((w.alloc (.cells #[.int .i64 k, .int .i64 wh, .int .i64 n, .slice A L.length c] 45)).alloc (.cells X 40)).cell? ⟨gr, 1, none⟩ = some (.slice A2 ly.length c2) := fun X => (blk_cell (blk_alloc (blk_alloc hr _) _) 1).trans rfl
  have hra1 := (blk_cell (blk_alloc hr (.cells #[.int .i64 k, .int .i64 wh, .int .i64 n, .slice A L.length c] 45)) 0).trans (show _ = some (Value.slice A1 lx.length c1) from rfl)
  have hrc1 := (blk_cell (blk_alloc hr (.cells #[.int .i64 k, .int .i64 wh, .int .i64 n, .slice A L.length c] 45)) 1).trans (show _ = some (Value.slice A2 ly.length c2) from rfl)
  have HA := Aside0.mk ha
  have HR := Aside0.mk hr
  have HT := Aside0.mk T
  have HD := Aside0.mk D
  have HC := Aside0.mk hC
  have HLT := Aside0.mk hlt
  have HTAB := Aside0.mk hT
  clear ha hr hb T T0 D hC hlt hT
  go_enter Tryd.func19, Tryd.ntmps19
  go_wp2_with (fail)
  go_region
  all_goals go_wp2_with (fail)
  all_goals go_region
  all_goals clear hcb0 hcb1 hcb2 hcb3 hca hcc hra hrc hra1 hrc1 hra2 hrc2
  · have HE := Aside0.mk (Env.start w ga gr k wh n A c L (.slice A1 lx.length c1) (.slice A2 ly.length c2) HA.out HR.out)
    have hws := Env.size w k wh n A c L (.slice A1 lx.length c1) (.slice A2 ly.length c2)
    have HF := Aside0.mk (Env.frame w k wh n A c L (.slice A1 lx.length c1) (.slice A2 ly.length c2))
    generalize hW : Env.world w k wh n A c L (.slice A1 lx.length c1) (.slice A2 ly.length c2) = W at hws HF HE
    rw [show (((w.alloc (.cells #[.int .i64 k, .int .i64 wh, .int .i64 n, .slice A L.length c] 45)).alloc (.cells #[.slice A1 lx.length c1] 40)).alloc (.cells #[.slice A2 ly.length c2] 40)).drew.drew = W from hW]
    clear hW
    have HT1 := Aside0.mk (HT.out.fr HF.out)
    have he0 := (blk_cell HE.out.b 0).trans (show _ = some (Value.int .i64 k) from rfl)
    have he2 := (blk_cell HE.out.b 2).trans (show _ = some (Value.int .i64 n) from rfl)
    have he3 := (blk_cell HE.out.b 3).trans (show _ = some (Value.slice A L.length c) from rfl)
    have hep := (blk_cell HE.out.p 0).trans (show _ = some (Value.slice A1 lx.length c1) from rfl)
    have heq := (blk_cell HE.out.q 0).trans (show _ = some (Value.slice A2 ly.length c2) from rfl)
    have hlx : lx.length ≤ 1048576 := len_le HD.out.rl HD.out.nl
    have hly : ly.length ≤ 1048576 := len_le HD.out.rm HD.out.nm
    have hsz1 : top ≤ W.heap.size := by omega
    have hea := (blk_cell HE.out.a 0).trans (show _ = some (Value.pointer (some ⟨g, 0, none⟩)) from rfl)
    have hef := blk_frozen HE.out.a 0
    have HT1 := Aside0.mk (HT1.out.fr (Fr.refl (fun _ => False) _).drew)
    have HE1 := Aside0.mk (HE.out.fr (Fr.refl (fun _ => False) _).drew)
    have HF1 := Aside0.mk (HF.out.drew)
    go_wp2_with (fail)
    go_region_with (go_at_call 9; refine (copy_calls _ top h t ly HT1.out.y (by omega)).mono ?_; rintro e W2 ⟨gz, sz, rfl, hgz, hNz, hF⟩; have HT2 := Aside0.mk (HT1.out.copied hF hNz hgz hsz1); have HE2 := Aside0.mk (HE1.out.fr hF); have HF2 := Aside0.mk ((HF1.out.trans hF (fun _ _ hf => hf)).mono (T := fun k => top ≤ k) (fun _ hf => hf.elim)); have e2a := (blk_cell HE2.out.a 0).trans (show _ = some (Value.pointer (some ⟨g, 0, none⟩)) from rfl); have f2a := blk_frozen HE2.out.a 0; clear hgz hNz hF hea hef he0 he2 he3 hep heq)
    have HE3 := Aside0.mk (HE2.out.puta 0 (.pointer (some ⟨gz, 0, none⟩)))
    have HT3 := Aside0.mk (Two.puta (i := 0) (v' := (.pointer (some ⟨gz, 0, none⟩))) HT2.out HE2.out.a)
    have HF3 := Aside0.mk (HF2.out.set (g := ga) (o := 0) (.pointer (some ⟨gz, 0, none⟩)) (fun _ => HD.out.ta))
    generalize hW3 : W2.setCell ⟨ga, 0, none⟩ (.pointer (some ⟨gz, 0, none⟩)) = W3 at HE3 HT3 HF3 ⊢
    clear hW3 e2a f2a
    simp only [List.setIfInBounds_toArray, List.set_cons_zero] at HE3
    have e3q := (blk_cell HE3.out.q 0).trans (show _ = some (Value.slice A2 ly.length c2) from rfl)
    have e3r := (blk_cell HE3.out.r 0).trans (show _ = some (Value.slice A1 lx.length c1) from rfl)
    have f3r := blk_frozen HE3.out.r 0
    go_wp2_with (fail)
    go_region
    have HE4 := Aside0.mk ((HE3.out.put 0 (.slice A2 ly.length c2)).fr (Fr.refl (fun _ => False) _).drew)
    have HT4 := Aside0.mk ((Two.put (i := 0) (v' := (.slice A2 ly.length c2)) HT3.out HE3.out.r).fr (Fr.refl (fun _ => False) _).drew)
    have HF4 := Aside0.mk ((HF3.out.set (g := gr) (o := 0) (.slice A2 ly.length c2) (fun _ => HD.out.tr)).drew)
    generalize hW4 : (W3.setCell ⟨gr, 0, none⟩ (.slice A2 ly.length c2)).drew = W4 at HE4 HT4 HF4 ⊢
    clear hW4 e3q e3r f3r
    simp only [List.setIfInBounds_toArray, List.set_cons_zero] at HE4
    have e4a := (blk_cell HE4.out.a 0).trans (show _ = some (Value.pointer (some ⟨gz, 0, none⟩)) from rfl)
    have HD4 := Aside0.mk (Duo.mk0 HT4.out HE4.out.a HE4.out.r HD.out.rm HD.out.rm HD.out.nm HD.out.nm HD.out.ta HD.out.tr)
    go_wp2_with (fail)
    go_ret
    exact ⟨rfl, _, _, HD4.out, HF4.out⟩
  · have HE := Aside0.mk (Env.start w ga gr k wh n A c L (.slice A2 ly.length c2) (.slice A1 lx.length c1) HA.out HR.out)
    have hws := Env.size w k wh n A c L (.slice A2 ly.length c2) (.slice A1 lx.length c1)
    have HF := Aside0.mk (Env.frame w k wh n A c L (.slice A2 ly.length c2) (.slice A1 lx.length c1))
    generalize hW : Env.world w k wh n A c L (.slice A2 ly.length c2) (.slice A1 lx.length c1) = W at hws HF HE
    rw [show (((w.alloc (.cells #[.int .i64 k, .int .i64 wh, .int .i64 n, .slice A L.length c] 45)).alloc (.cells #[.slice A2 ly.length c2] 40)).alloc (.cells #[.slice A1 lx.length c1] 40)).drew.drew = W from hW]
    clear hW
    have HT1 := Aside0.mk (HT.out.fr HF.out)
    have he0 := (blk_cell HE.out.b 0).trans (show _ = some (Value.int .i64 k) from rfl)
    have he2 := (blk_cell HE.out.b 2).trans (show _ = some (Value.int .i64 n) from rfl)
    have he3 := (blk_cell HE.out.b 3).trans (show _ = some (Value.slice A L.length c) from rfl)
    have hep := (blk_cell HE.out.q 0).trans (show _ = some (Value.slice A1 lx.length c1) from rfl)
    have heq := (blk_cell HE.out.p 0).trans (show _ = some (Value.slice A2 ly.length c2) from rfl)
    have hlx : lx.length ≤ 1048576 := len_le HD.out.rl HD.out.nl
    have hly : ly.length ≤ 1048576 := len_le HD.out.rm HD.out.nm
    have hsz1 : top ≤ W.heap.size := by omega
    have hea := (blk_cell HE.out.a 0).trans (show _ = some (Value.pointer (some ⟨g, 0, none⟩)) from rfl)
    have hef := blk_frozen HE.out.a 0
    have HT1 := Aside0.mk (HT1.out.fr (Fr.refl (fun _ => False) _).drew)
    have HE1 := Aside0.mk (HE.out.fr (Fr.refl (fun _ => False) _).drew)
    have HF1 := Aside0.mk (HF.out.drew)
    go_wp2_with (fail)
    go_region_with (go_at_call 9; refine (copy_calls _ top h t ly HT1.out.y (by omega)).mono ?_; rintro e W2 ⟨gz, sz, rfl, hgz, hNz, hF⟩; have HT2 := Aside0.mk (HT1.out.copied hF hNz hgz hsz1); have HE2 := Aside0.mk (HE1.out.fr hF); have HF2 := Aside0.mk ((HF1.out.trans hF (fun _ _ hf => hf)).mono (T := fun k => top ≤ k) (fun _ hf => hf.elim)); have e2a := (blk_cell HE2.out.a 0).trans (show _ = some (Value.pointer (some ⟨g, 0, none⟩)) from rfl); have f2a := blk_frozen HE2.out.a 0; clear hgz hNz hF hea hef he0 he2 he3 hep heq)
    have HE3 := Aside0.mk (HE2.out.puta 0 (.pointer (some ⟨gz, 0, none⟩)))
    have HT3 := Aside0.mk (Two.puta (i := 0) (v' := (.pointer (some ⟨gz, 0, none⟩))) HT2.out HE2.out.a)
    have HF3 := Aside0.mk (HF2.out.set (g := ga) (o := 0) (.pointer (some ⟨gz, 0, none⟩)) (fun _ => HD.out.ta))
    generalize hW3 : W2.setCell ⟨ga, 0, none⟩ (.pointer (some ⟨gz, 0, none⟩)) = W3 at HE3 HT3 HF3 ⊢
    clear hW3 e2a f2a
    simp only [List.setIfInBounds_toArray, List.set_cons_zero] at HE3
    have e3q := (blk_cell HE3.out.p 0).trans (show _ = some (Value.slice A2 ly.length c2) from rfl)
    have e3r := (blk_cell HE3.out.r 0).trans (show _ = some (Value.slice A1 lx.length c1) from rfl)
    have f3r := blk_frozen HE3.out.r 0
    go_wp2_with (fail)
    go_region
    have HE4 := Aside0.mk ((HE3.out.put 0 (.slice A2 ly.length c2)).fr (Fr.refl (fun _ => False) _).drew)
    have HT4 := Aside0.mk ((Two.put (i := 0) (v' := (.slice A2 ly.length c2)) HT3.out HE3.out.r).fr (Fr.refl (fun _ => False) _).drew)
    have HF4 := Aside0.mk ((HF3.out.set (g := gr) (o := 0) (.slice A2 ly.length c2) (fun _ => HD.out.tr)).drew)
    generalize hW4 : (W3.setCell ⟨gr, 0, none⟩ (.slice A2 ly.length c2)).drew = W4 at HE4 HT4 HF4 ⊢
    clear hW4 e3q e3r f3r
    simp only [List.setIfInBounds_toArray, List.set_cons_zero] at HE4
    have e4a := (blk_cell HE4.out.a 0).trans (show _ = some (Value.pointer (some ⟨gz, 0, none⟩)) from rfl)
    have HD4 := Aside0.mk (Duo.mk0 HT4.out HE4.out.a HE4.out.r HD.out.rm HD.out.rm HD.out.nm HD.out.nm HD.out.ta HD.out.tr)
    go_wp2_with (fail)
    go_ret
    exact ⟨rfl, _, _, HD4.out, HF4.out⟩

set_option maxRecDepth 100000 in
set_option maxHeartbeats 4000000 in
theorem does_0_8 (w : World) (top ga gr : Nat) (k wh n : Int) (A : Option Addr) (c : Nat) (L lx ly : List Int) (D : Duo w top ga gr lx ly) (hsz : top ≤ w.heap.size) (hwh : bits BinOp.and IntKind.i64 wh 1 = 0) (hk : (wrap64 (k.tmod 9 + 9)).tmod 9 = 8)
    (hC : kI.C w A L.length L) (hlt : ∀ ad, A = some ad → 0 < L.length → ad.block < top) (hT : Tab w) :
    Calls Tryd.prog 19 #[.pointer (some ⟨ga, 0, none⟩), .pointer (some ⟨gr, 0, none⟩), .agg #[.int .i64 k, .int .i64 wh, .int .i64 n, .slice A L.length c]] w (DoPost w top ga gr) := by
  obtain ⟨g, h, s, t, v, u, T0, ha, hr⟩ := D.ex
  have T : Two w top g h s t v u lx ly lx ly := T0
  obtain ⟨A1, c1, rfl⟩ := Kd.R_slice T.rx
  obtain ⟨A2, c2, rfl⟩ := Kd.R_slice T.ry
  have hu := Tryd.underlying45
  have hu2 := Tryd.underlying38
  have hu3 := Tryd.underlying43
  have hu4 := Tryd.underlying40
  have hb := blk_new w (.cells #[.int .i64 k, .int .i64 wh, .int .i64 n, .slice A L.length c] 45)
  have hcb0 := (blk_cell hb 0).trans (show _ = some (Value.int .i64 k) from rfl)
  have hcb1 := (blk_cell hb 1).trans (show _ = some (Value.int .i64 wh) from rfl)
  have hcb2 := (blk_cell hb 2).trans (show _ = some (Value.int .i64 n) from rfl)
  have hcb3 := (blk_cell hb 3).trans (show _ = some (Value.slice A L.length c) from rfl)
  have hca := (blk_cell (blk_alloc ha (.cells #[.int .i64 k, .int .i64 wh, .int .i64 n, .slice A L.length c] 45)) 0).trans (show _ = some (Value.pointer (some ⟨g, 0, none⟩)) from rfl)
  have hcc := (blk_cell (blk_alloc ha (.cells #[.int .i64 k, .int .i64 wh, .int .i64 n, .slice A L.length c] 45)) 1).trans (show _ = some (Value.pointer (some ⟨h, 0, none⟩)) from rfl)
  have hra : ∀ X Y : Array Value, (((w.alloc (.cells #[.int .i64 k, .int .i64 wh, .int .i64 n, .slice A L.length c] 45)).alloc (.cells X 40)).alloc (.cells Y 40)).cell? ⟨gr, 0, none⟩ = some (.slice A1 lx.length c1) := fun X Y => (blk_cell (blk_alloc (blk_alloc (blk_alloc hr _) _) _) 0).trans rfl
  have hrc : ∀ X Y : Array Value, (((w.alloc (.cells #[.int .i64 k, .int .i64 wh, .int .i64 n, .slice A L.length c] 45)).alloc (.cells X 40)).alloc (.cells Y 40)).cell? ⟨gr, 1, none⟩ = some (.slice A2 ly.length c2) := fun X Y => (blk_cell (blk_alloc (blk_alloc (blk_alloc hr _) _) _) 1).trans rfl
  have hra2 : ∀ X : Array Value, ((w.alloc (.cells #[.int .i64 k, .int .i64 wh, .int .i64 n, .slice A L.length c] 45)).alloc (.cells X 40)).cell? ⟨gr, 0, none⟩ = some (.slice A1 lx.length c1) := fun X => (blk_cell (blk_alloc (blk_alloc hr _) _) 0).trans rfl
  have hrc2 : ∀ X : Array Value, ((w.alloc (.cells #[.int .i64 k, .int .i64 wh, .int .i64 n, .slice A L.length c] 45)).alloc (.cells X 40)).cell? ⟨gr, 1, none⟩ = some (.slice A2 ly.length c2) := fun X => (blk_cell (blk_alloc (blk_alloc hr _) _) 1).trans rfl
  have hra1 := (blk_cell (blk_alloc hr (.cells #[.int .i64 k, .int .i64 wh, .int .i64 n, .slice A L.length c] 45)) 0).trans (show _ = some (Value.slice A1 lx.length c1) from rfl)
  have hrc1 := (blk_cell (blk_alloc hr (.cells #[.int .i64 k, .int .i64 wh, .int .i64 n, .slice A L.length c] 45)) 1).trans (show _ = some (Value.slice A2 ly.length c2) from rfl)
  have HA := Aside0.mk ha
  have HR := Aside0.mk hr
  have HT := Aside0.mk T
  have HD := Aside0.mk D
  have HC := Aside0.mk hC
  have HLT := Aside0.mk hlt
  have HTAB := Aside0.mk hT
  clear ha hr hb T T0 D hC hlt hT
  go_enter Tryd.func19, Tryd.ntmps19
  go_wp2_with (fail)
  go_region
  all_goals go_wp2_with (fail)
  all_goals go_region
  all_goals clear hcb0 hcb1 hcb2 hcb3 hca hcc hra hrc hra1 hrc1 hra2 hrc2
  · have HE := Aside0.mk (Env.start w ga gr k wh n A c L (.slice A1 lx.length c1) (.slice A2 ly.length c2) HA.out HR.out)
    have hws := Env.size w k wh n A c L (.slice A1 lx.length c1) (.slice A2 ly.length c2)
    have HF := Aside0.mk (Env.frame w k wh n A c L (.slice A1 lx.length c1) (.slice A2 ly.length c2))
    generalize hW : Env.world w k wh n A c L (.slice A1 lx.length c1) (.slice A2 ly.length c2) = W at hws HF HE
    rw [show (((w.alloc (.cells #[.int .i64 k, .int .i64 wh, .int .i64 n, .slice A L.length c] 45)).alloc (.cells #[.slice A1 lx.length c1] 40)).alloc (.cells #[.slice A2 ly.length c2] 40)).drew.drew = W from hW]
    clear hW
    have HT1 := Aside0.mk (HT.out.fr HF.out)
    have he0 := (blk_cell HE.out.b 0).trans (show _ = some (Value.int .i64 k) from rfl)
    have he2 := (blk_cell HE.out.b 2).trans (show _ = some (Value.int .i64 n) from rfl)
    have he3 := (blk_cell HE.out.b 3).trans (show _ = some (Value.slice A L.length c) from rfl)
    have hep := (blk_cell HE.out.p 0).trans (show _ = some (Value.slice A1 lx.length c1) from rfl)
    have heq := (blk_cell HE.out.q 0).trans (show _ = some (Value.slice A2 ly.length c2) from rfl)
    have hlx : lx.length ≤ 1048576 := len_le HD.out.rl HD.out.nl
    have hly : ly.length ≤ 1048576 := len_le HD.out.rm HD.out.nm
    have hsz1 : top ≤ W.heap.size := by omega
    go_wp2_with (fail)
    have HF1 := Aside0.mk HF.out.drew
    have HT1 := Aside0.mk (HT.out.fr HF1.out)
    have HE1 := Aside0.mk (HE.out.fr (Fr.refl _ _).drew)
    have HQ := Lib.hid (key_dec HD.out.nl HD.out.nm)
    go_region_held3 (fun w' => w'.cell? ⟨w.heap.size + 1, 0, none⟩ = some (.slice A1 lx.length c1) ∧ w'.cell? ⟨w.heap.size + 1 + 1, 0, none⟩ = some (.slice A2 ly.length c2)) (go_keep)
      (first | (go_at_call_of 17 (Value.pointer (some ⟨g, 0, none⟩)); refine (key_calls _ top g s lx HT1.out.x HD.out.rl HD.out.nl (HTAB.out.fr HF1.out (fun _ _ => id))).mono ?_; rintro e W2 ⟨rfl, hd⟩; have HF2 := Aside0.mk (HF1.out.trans (hd) (fun _ _ hf => hf)); have HT2 := Aside0.mk (HT.out.fr HF2.out); have HE2 := Aside0.mk (HE1.out.fr (hd)); have f2n := (blk_cell HE2.out.p 0).trans (show _ = some (Value.slice A1 lx.length c1) from rfl); have g2n := (blk_cell HE2.out.q 0).trans (show _ = some (Value.slice A2 ly.length c2) from rfl); clear hd) | (go_at_call_of 17 (Value.pointer (some ⟨h, 0, none⟩)); refine (key_calls _ top h t ly HT2.out.y HD.out.rm HD.out.nm (HTAB.out.fr HF2.out (fun _ _ => id))).mono ?_; rintro e W3 ⟨rfl, hd⟩; have HF3 := Aside0.mk (HF2.out.trans (hd) (fun _ _ hf => hf)); have HT3 := Aside0.mk (HT.out.fr HF3.out); have HE3 := Aside0.mk (HE2.out.fr (hd)); have f3n := (blk_cell HE3.out.p 0).trans (show _ = some (Value.slice A1 lx.length c1) from rfl); have g3n := (blk_cell HE3.out.q 0).trans (show _ = some (Value.slice A2 ly.length c2) from rfl); clear hd) | (go_at_call 20; refine (same_calls _ lx ly A1 A2 c1 c2 (R_C HT3.out.rx) (R_C HT3.out.ry)).mono ?_; rintro e W4 ⟨rfl, hd⟩; have HF4 := Aside0.mk (HF3.out.trans (Fr.drawn (S := fun _ => False) hd) (fun _ _ hf => hf)); have HT4 := Aside0.mk (HT.out.fr HF4.out); have HE4 := Aside0.mk (HE3.out.fr (Fr.drawn (S := fun _ => False) hd)); have f4n := (blk_cell HE4.out.p 0).trans (show _ = some (Value.slice A1 lx.length c1) from rfl); have g4n := (blk_cell HE4.out.q 0).trans (show _ = some (Value.slice A2 ly.length c2) from rfl); clear hd))
    all_goals go_wp2_with (fail)
    all_goals go_ret
    all_goals exact Duo.done HD.out HF4.out (by first | rfl | (show Ending.returned (.bool ((keyB lx == keyB ly) == decide (lx = ly))) = _; rw [HQ.out, beq_self_eq_true]))
  · have HE := Aside0.mk (Env.start w ga gr k wh n A c L (.slice A2 ly.length c2) (.slice A1 lx.length c1) HA.out HR.out)
    have hws := Env.size w k wh n A c L (.slice A2 ly.length c2) (.slice A1 lx.length c1)
    have HF := Aside0.mk (Env.frame w k wh n A c L (.slice A2 ly.length c2) (.slice A1 lx.length c1))
    generalize hW : Env.world w k wh n A c L (.slice A2 ly.length c2) (.slice A1 lx.length c1) = W at hws HF HE
    rw [show (((w.alloc (.cells #[.int .i64 k, .int .i64 wh, .int .i64 n, .slice A L.length c] 45)).alloc (.cells #[.slice A2 ly.length c2] 40)).alloc (.cells #[.slice A1 lx.length c1] 40)).drew.drew = W from hW]
    clear hW
    have HT1 := Aside0.mk (HT.out.fr HF.out)
    have he0 := (blk_cell HE.out.b 0).trans (show _ = some (Value.int .i64 k) from rfl)
    have he2 := (blk_cell HE.out.b 2).trans (show _ = some (Value.int .i64 n) from rfl)
    have he3 := (blk_cell HE.out.b 3).trans (show _ = some (Value.slice A L.length c) from rfl)
    have hep := (blk_cell HE.out.q 0).trans (show _ = some (Value.slice A1 lx.length c1) from rfl)
    have heq := (blk_cell HE.out.p 0).trans (show _ = some (Value.slice A2 ly.length c2) from rfl)
    have hlx : lx.length ≤ 1048576 := len_le HD.out.rl HD.out.nl
    have hly : ly.length ≤ 1048576 := len_le HD.out.rm HD.out.nm
    have hsz1 : top ≤ W.heap.size := by omega
    go_wp2_with (fail)
    have HF1 := Aside0.mk HF.out.drew
    have HT1 := Aside0.mk (HT.out.fr HF1.out)
    have HE1 := Aside0.mk (HE.out.fr (Fr.refl _ _).drew)
    have HQ := Lib.hid (key_dec HD.out.nl HD.out.nm)
    go_region_held3 (fun w' => w'.cell? ⟨w.heap.size + 1 + 1, 0, none⟩ = some (.slice A1 lx.length c1) ∧ w'.cell? ⟨w.heap.size + 1, 0, none⟩ = some (.slice A2 ly.length c2)) (go_keep)
      (first | (go_at_call_of 17 (Value.pointer (some ⟨g, 0, none⟩)); refine (key_calls _ top g s lx HT1.out.x HD.out.rl HD.out.nl (HTAB.out.fr HF1.out (fun _ _ => id))).mono ?_; rintro e W2 ⟨rfl, hd⟩; have HF2 := Aside0.mk (HF1.out.trans (hd) (fun _ _ hf => hf)); have HT2 := Aside0.mk (HT.out.fr HF2.out); have HE2 := Aside0.mk (HE1.out.fr (hd)); have f2n := (blk_cell HE2.out.q 0).trans (show _ = some (Value.slice A1 lx.length c1) from rfl); have g2n := (blk_cell HE2.out.p 0).trans (show _ = some (Value.slice A2 ly.length c2) from rfl); clear hd) | (go_at_call_of 17 (Value.pointer (some ⟨h, 0, none⟩)); refine (key_calls _ top h t ly HT2.out.y HD.out.rm HD.out.nm (HTAB.out.fr HF2.out (fun _ _ => id))).mono ?_; rintro e W3 ⟨rfl, hd⟩; have HF3 := Aside0.mk (HF2.out.trans (hd) (fun _ _ hf => hf)); have HT3 := Aside0.mk (HT.out.fr HF3.out); have HE3 := Aside0.mk (HE2.out.fr (hd)); have f3n := (blk_cell HE3.out.q 0).trans (show _ = some (Value.slice A1 lx.length c1) from rfl); have g3n := (blk_cell HE3.out.p 0).trans (show _ = some (Value.slice A2 ly.length c2) from rfl); clear hd) | (go_at_call 20; refine (same_calls _ lx ly A1 A2 c1 c2 (R_C HT3.out.rx) (R_C HT3.out.ry)).mono ?_; rintro e W4 ⟨rfl, hd⟩; have HF4 := Aside0.mk (HF3.out.trans (Fr.drawn (S := fun _ => False) hd) (fun _ _ hf => hf)); have HT4 := Aside0.mk (HT.out.fr HF4.out); have HE4 := Aside0.mk (HE3.out.fr (Fr.drawn (S := fun _ => False) hd)); have f4n := (blk_cell HE4.out.q 0).trans (show _ = some (Value.slice A1 lx.length c1) from rfl); have g4n := (blk_cell HE4.out.p 0).trans (show _ = some (Value.slice A2 ly.length c2) from rfl); clear hd))
    all_goals go_wp2_with (fail)
    all_goals go_ret
    all_goals exact Duo.done HD.out HF4.out (by first | rfl | (show Ending.returned (.bool ((keyB lx == keyB ly) == decide (lx = ly))) = _; rw [HQ.out, beq_self_eq_true]))

end Go.Proofs.YtpjhflimaiaokaaDoor.Does
