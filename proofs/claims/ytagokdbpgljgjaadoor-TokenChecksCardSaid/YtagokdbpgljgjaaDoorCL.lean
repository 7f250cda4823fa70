/-
The law of what is a row, walked.
-/
import Derived.Test.YtagokdbpgljgjaaDoorVP
import Derived.Test.YtagokdbpgljgjaaDoorCK
import Derived.Test.YtagokdbpgljgjaaDoorTK
namespace Go.Proofs.YtagokdbpgljgjaaDoor.Tok
open Go.RowKit Go.Proofs.YtagokdbpgljgjaaDoorW.PrintWords Go.Proofs.YtagokdbpgljgjaaDoorW.PrintLast Go.Proofs.YtagokdbpgljgjaaDoorW.PrintMore Go.Proofs.YtagokdbpgljgjaaDoor.Fr Go.Proofs.YtagokdbpgljgjaaDoor.PGramFirsts Go.Proofs.YtagokdbpgljgjaaDoor.TextSet Go.Proofs.YtagokdbpgljgjaaDoor.Bld

theorem refkinds_calls (w : World) (ns : List ByteArray) (A : Option Addr) (c : Nat) (hA : Kd.string.C w A ns.length ns) (hc : ns.length ≤ c) (r : Bool) (hf : Fin (fun k => quoinref07_Kinds.f k ns) r) :
    Calls Tryd.prog 16 #[.slice A ns.length c] w fun e w' => e = .returned (.bool r) ∧ Fr (fun _ => False) w w' := by
  obtain ⟨k, hk⟩ := hf.get
  exact (quoinref07_Kinds.calls k A c ns r w hA hc hk).mono fun e w' ⟨h, hd⟩ => ⟨h, Fr.drawn hd⟩
def FindPost (w : World) (r : Int × Bool) (e : Ending) (w' : World) : Prop := e = .returned (.tuple #[.int .i64 r.1, .bool r.2]) ∧ Fr (fun _ => False) w w'
theorem finds_calls (w : World) (ns : List ByteArray) (A : Option Addr) (c : Nat) (hA : Kd.string.C w A ns.length ns) (hc : ns.length ≤ c) (s : ByteArray) (r : Int × Bool) (k : Nat) (hk : token_Find.f k ns s = some r) :
    Calls Tryd.prog 11 #[.slice A ns.length c, .string s] w (FindPost w r) :=
  (token_Find.calls k A c ns s r.1 r.2 w hA hc hk).mono fun _ _ ⟨h, hd⟩ => ⟨h, Fr.drawn hd⟩
theorem reffinds_calls (w : World) (ns : List ByteArray) (A : Option Addr) (c : Nat) (hA : Kd.string.C w A ns.length ns) (hc : ns.length ≤ c) (s : ByteArray) (r : Int × Bool) (k : Nat) (hk : quoinref07_Find.f k ns s = some r) :
    Calls Tryd.prog 12 #[.slice A ns.length c, .string s] w (FindPost w r) :=
  (quoinref07_Find.calls k A c ns s r.1 r.2 w hA hc hk).mono fun _ _ ⟨h, hd⟩ => ⟨h, Fr.drawn hd⟩
/-- What Check answers. -/
def ckF (ns : List ByteArray) (src : ByteArray) (l : List S55) (p : Int × Int) : Prop := (KindsOk ns → l.length ≤ 65536 → p = checkF ns.length src.size 0 0 l) ∧ (KindsOk ns → 65536 < l.length → p = (65536, 71)) ∧ (¬ KindsOk ns → p = (0, 70))
theorem ckF_one {ns : List ByteArray} {src : ByteArray} {l : List S55} {p q : Int × Int} (h : ckF ns src l p) (k : ckF ns src l q) : p = q := by
  by_cases h1 : KindsOk ns
  · by_cases h2 : l.length ≤ 65536
    · rw [h.1 h1 h2, k.1 h1 h2]
    · rw [h.2.1 h1 (by omega), k.2.1 h1 (by omega)]
  · rw [h.2.2 h1, k.2.2 h1]
def CheckPost (w : World) (p : Int × Int) (e : Ending) (w' : World) : Prop := e = .returned (.tuple #[.int .i64 p.1, .int .i64 p.2]) ∧ Fr (fun _ => False) w w'
theorem refcheck_calls (w : World) (ns : List ByteArray) (A : Option Addr) (c : Nat) (hA : Kd.string.C w A ns.length ns) (hc : ns.length ≤ c) (hs : ∀ s, s ∈ ns → s.size ≤ maxLen) (src : ByteArray) (l : List S55) (A2 : Option Addr) (c2 : Nat) (hC : Kd.C k55 w A2 l.length l) (hc2 : l.length ≤ c2) (p : Int × Int) (hp : ckF ns src l p) :
    Calls Tryd.prog 14 #[.slice A ns.length c, .string src, .slice A2 l.length c2] w (CheckPost w p) := by
  obtain ⟨a, b, h1, h2, h3, k, hk⟩ := check_fin ns hs src l
  obtain rfl : p = (a, b) := ckF_one hp ⟨h1, h2, h3⟩
  exact (quoinref07_Check.calls k A c ns src A2 c2 l a b w hA hc hC hc2 hk).mono fun _ _ ⟨h, hd⟩ => ⟨h, Fr.of_below hd⟩
theorem mycheck_calls (w : World) (ns : List ByteArray) (A : Option Addr) (c : Nat) (hA : Kd.string.C w A ns.length ns) (hs : ∀ s, s ∈ ns → s.size ≤ maxLen) (src : ByteArray) (l : List S55) (A2 : Option Addr) (c2 : Nat) (hC : Kd.C k55 w A2 l.length l) (p : Int × Int) (hp : ckF ns src l p) :
    Calls Tryd.prog 13 #[.slice A ns.length c, .string src, .slice A2 l.length c2] w (CheckPost w p) := by
  refine (check_calls w ns A c hA hs src l A2 c2 hC).mono ?_
  rintro e w' ⟨⟨a, b, he, h1, h2, h3⟩, hF⟩
  obtain rfl : p = (a, b) := ckF_one hp ⟨h1, h2, h3⟩
  exact ⟨he, hF⟩
theorem ckF_some (ns : List ByteArray) (src : ByteArray) (l : List S55) : ∃ p, ckF ns src l p := by
  by_cases h1 : KindsOk ns
  · by_cases h2 : l.length ≤ 65536
    · exact ⟨_, fun _ _ => rfl, fun _ h => absurd h2 (by omega), fun h => absurd h1 h⟩
    · exact ⟨(65536, 71), fun _ h => absurd h h2, fun _ _ => rfl, fun h => absurd h1 h⟩
  · exact ⟨(0, 70), fun h => absurd h h1, fun h => absurd h h1, fun _ => rfl⟩
set_option maxHeartbeats 8000000 in
set_option maxRecDepth 100000 in
theorem checks_calls (w : World) (ns : List ByteArray) (A : Option Addr) (cn : Nat) (hA : Kd.string.C w A ns.length ns) (hcn : ns.length ≤ cn) (hs : ∀ s, s ∈ ns → s.size ≤ maxLen) (src : ByteArray) (l : List S55) (A2 : Option Addr) (c2 : Nat) (hc2 : l.length ≤ c2) (hC : Kd.C k55 w A2 l.length l) (name : ByteArray) (hm : Mx w) :
    Calls Tryd.prog 3 #[.agg #[.slice A ns.length cn, .string src, .slice A2 l.length c2], .string name] w fun e w' => e = .returned (.bool true) ∧ Below w.heap.size w w' := by
  have hu := Tryd.underlying25
  have hm0 := Kd.C_max hA
  obtain ⟨fr, kf, mf, hkf, hmf⟩ := find_some name ns hm0
  obtain ⟨p, hp⟩ := ckF_some ns src l
  obtain ⟨rk, hrk, hfin⟩ := kinds_fin ns hs
  go_enter Tryd.func3, Tryd.ntmps3
  have HA := Aside0.mk hA
  have HS := Aside0.mk hs
  have HC := Aside0.mk hC
  have HM := Aside0.mk hm
  have HKF := Aside0.mk hkf
  have HMF := Aside0.mk hmf
  have HP := Aside0.mk hp
  have HRK := Aside0.mk hrk
  have HFN := Aside0.mk hfin
  have HF0 := Aside0.mk ((Fr.refl (fun _ => False) w).alloc (.cells #[.slice A ns.length cn, .string src, .slice A2 l.length c2] 25))
  have HX0 := Aside0.mk (blk_new w (.cells #[.slice A ns.length cn, .string src, .slice A2 l.length c2] 25))
  clear hA hs hC hm hkf hmf hp hrk hfin
  go_upto_region 1 with (fail)
  obtain ⟨W0, hW0⟩ : ∃ W0, w.alloc (.cells #[.slice A ns.length cn, .string src, .slice A2 l.length c2] 25) = W0 := ⟨_, rfl⟩
  obtain ⟨mb, hmb⟩ : ∃ mb, w.heap.size = mb := ⟨_, rfl⟩
  simp only [hW0, hmb] at HF0 HX0 ⊢
  clear hW0 hmb
  have hx0 := (blk_cell HX0.out 0).trans (show _ = some (Value.slice A ns.length cn) from rfl)
  go_wp2_with (fail)
  refine (finds_calls _ ns A cn (Kd.C_below HA.out HF0.out.to_below) hcn name fr kf HKF.out).mono ?_
  rintro e W1 ⟨rfl, hF⟩
  have HF1 := Aside0.mk (HF0.out.trans hF (fun _ _ h => h))
  have HX1 := Aside0.mk (hF.blk HX0.out id)
  clear hF hx0 HF0 HX0
  have hx0 := (blk_cell HX1.out 0).trans (show _ = some (Value.slice A ns.length cn) from rfl)
  go_wp2_with (fail)
  refine (reffinds_calls _ ns A cn (Kd.C_below HA.out HF1.out.to_below) hcn name fr mf HMF.out).mono ?_
  rintro e W2 ⟨rfl, hF⟩
  have HF2 := Aside0.mk (HF1.out.trans hF (fun _ _ h => h))
  have HX2 := Aside0.mk (hF.blk HX1.out id)
  clear hF hx0 HF1 HX1
  have hx0 := (blk_cell HX2.out 0).trans (show _ = some (Value.slice A ns.length cn) from rfl)
  have hx1 := (blk_cell HX2.out 1).trans (show _ = some (Value.string src) from rfl)
  have hx2 := (blk_cell HX2.out 2).trans (show _ = some (Value.slice A2 l.length c2) from rfl)
  go_wp2_with (fail)
  refine (mycheck_calls _ ns A cn (Kd.C_below HA.out HF2.out.to_below) HS.out src l A2 c2 (Kd.C_below HC.out HF2.out.to_below) p HP.out).mono ?_
  rintro e W3 ⟨rfl, hF⟩
  have HF3 := Aside0.mk (HF2.out.trans hF (fun _ _ h => h))
  have HX3 := Aside0.mk (hF.blk HX2.out id)
  clear hF hx0 hx1 hx2 HF2 HX2
  have hx0 := (blk_cell HX3.out 0).trans (show _ = some (Value.slice A ns.length cn) from rfl)
  have hx1 := (blk_cell HX3.out 1).trans (show _ = some (Value.string src) from rfl)
  have hx2 := (blk_cell HX3.out 2).trans (show _ = some (Value.slice A2 l.length c2) from rfl)
  go_wp2_with (fail)
  refine (refcheck_calls _ ns A cn (Kd.C_below HA.out HF3.out.to_below) hcn HS.out src l A2 c2 (Kd.C_below HC.out HF3.out.to_below) hc2 p HP.out).mono ?_
  rintro e W4 ⟨rfl, hF⟩
  have HF4 := Aside0.mk (HF3.out.trans hF (fun _ _ h => h))
  have HX4 := Aside0.mk (hF.blk HX3.out id)
  clear hF hx0 hx1 hx2 HF3 HX3
  have hx0 := (blk_cell HX4.out 0).trans (show _ = some (Value.slice A ns.length cn) from rfl)
  obtain ⟨f1, f2⟩ := fr
  obtain ⟨p1, p2⟩ := p
  go_upto_region 5 with (fail)
  cases rk
  case false =>
    refine wp_region_last_drew (S := fun w' => w'.cell? ⟨mb, 0, none⟩ = some (.slice A ns.length cn)) (ds := []) (by kernel_rfl) hx0 (fun hHeld => ?_)
    have HF5 := Aside0.mk HF4.out.drew
    have HX5 := Aside0.mk (show W4.drew.heap[mb]? = _ from HX4.out)
    refine tk 0 ?_
    refine tk 1 ?_
    refine tk 4 ?_
    refine tk 5 ?_
    refine on 2 (fun K hK => ?_)
    go_simp
    refine (kinds_calls2 _ ns A cn (Kd.C_below HA.out HF5.out.to_below) HS.out).mono ?_
    rintro e Y6 ⟨⟨r, rfl, h1, h2⟩, hF⟩
    obtain rfl : r = 70 := h2.resolve_left (fun h => absurd (HRK.out.2 (h1.1 h)) (by decide))
    have HF6 := Aside0.mk (HF5.out.trans hF (fun _ _ h => h))
    have HX6 := Aside0.mk (hF.blk HX5.out id)
    clear hF
    refine hK.out _ _ ((blk_cell HX6.out 0).trans rfl) (fun hHeld => ?_)
    clear hK K
    try simp only [Act.put, List.setIfInBounds_toArray, List.set_cons_zero, List.set_cons_succ]
    refine tk (v := .bool false) 3 ?_
    refine on 6 (fun K hK => ?_)
    go_simp
    refine (refkinds_calls _ ns A cn (Kd.C_below HA.out HF6.out.to_below) hcn _ HFN.out).mono ?_
    rintro e Y7 ⟨rfl, hF⟩
    have HF7 := Aside0.mk (HF6.out.trans hF (fun _ _ h => h))
    have HX7 := Aside0.mk (hF.blk HX6.out id)
    clear hF
    refine hK.out _ _ ((blk_cell HX7.out 0).trans rfl) (fun hHeld => ?_)
    clear hK K
    try simp only [Act.put, List.setIfInBounds_toArray, List.set_cons_zero, List.set_cons_succ]
    refine tk (v := .bool true) 7 ?_
    refine tk 8 ?_
    refine tk 9 ?_
    refine tk 10 ?_
    refine on 11 (fun K hK => ?_)
    go_simp
    refine (refkinds_calls _ ns A cn (Kd.C_below HA.out HF7.out.to_below) hcn _ HFN.out).mono ?_
    rintro e Y8 ⟨rfl, hF⟩
    have HF8 := Aside0.mk (HF7.out.trans hF (fun _ _ h => h))
    have HX8 := Aside0.mk (hF.blk HX7.out id)
    clear hF
    refine hK.out _ _ ((blk_cell HX8.out 0).trans rfl) (fun hHeld => ?_)
    clear hK K
    try simp only [Act.put, List.setIfInBounds_toArray, List.set_cons_zero, List.set_cons_succ]
    refine tk 12 ?_
    refine tk 13 ?_
    refine tk 14 ?_
    refine on 15 (fun K hK => ?_)
    go_simp
    refine (kinds_calls2 _ ns A cn (Kd.C_below HA.out HF8.out.to_below) HS.out).mono ?_
    rintro e Y9 ⟨⟨r, rfl, h1, h2⟩, hF⟩
    obtain rfl : r = 70 := h2.resolve_left (fun h => absurd (HRK.out.2 (h1.1 h)) (by decide))
    have HF9 := Aside0.mk (HF8.out.trans hF (fun _ _ h => h))
    have HX9 := Aside0.mk (hF.blk HX8.out id)
    clear hF
    refine hK.out _ _ ((blk_cell HX9.out 0).trans rfl) (fun hHeld => ?_)
    clear hK K
    try simp only [Act.put, List.setIfInBounds_toArray, List.set_cons_zero, List.set_cons_succ]
    refine tk (v := .bool true) 16 ?_
    refine tk 17 ?_
    refine tk 18 ?_
    refine tk 19 ?_
    refine tk 20 ?_
    refine tk 21 ?_
    refine tk (v := .bool true) 22 ?_
    refine tk 23 ?_
    refine tk 24 ?_
    refine tk 25 ?_
    refine tk 26 ?_
    refine tk (v := .bool true) 27 ?_
    refine tk 28 ?_
    refine tk 29 ?_
    refine tk 30 ?_
    refine tk 31 ?_
    refine tk (v := .bool true) 32 ?_
    refine tk 33 ?_
    refine tk 34 ?_
    refine tk 35 ?_
    refine tk 36 ?_
    refine tk (v := .bool true) 37 ?_
    refine tk 38 ?_
    refine tk 39 ?_
    refine on 40 (fun K hK => ?_)
    go_simp
    refine (alive_calls _ (HM.out.fr HF9.out (fun _ _ => id))).mono ?_
    rintro e Y10 ⟨rfl, hF⟩
    have HF10 := Aside0.mk (HF9.out.trans hF (fun _ _ h => h))
    have HX10 := Aside0.mk (hF.blk HX9.out id)
    clear hF
    refine hK.out _ _ ((blk_cell HX10.out 0).trans rfl) (fun hHeld => ?_)
    clear hK K
    try simp only [Act.put, List.setIfInBounds_toArray, List.set_cons_zero, List.set_cons_succ]
    refine tk 41 ?_
    refine tk 42 ?_
    refine dn ?_
    go_wp2_with (fail)
    go_ret
    exact ⟨rfl, HF10.out.to_below⟩
  case true =>
    refine wp_region_last_drew (S := fun w' => w'.cell? ⟨mb, 0, none⟩ = some (.slice A ns.length cn)) (ds := []) (by kernel_rfl) hx0 (fun hHeld => ?_)
    have HF5 := Aside0.mk HF4.out.drew
    have HX5 := Aside0.mk (show W4.drew.heap[mb]? = _ from HX4.out)
    refine tk 0 ?_
    refine tk 1 ?_
    refine tk 4 ?_
    refine tk 5 ?_
    refine on 2 (fun K hK => ?_)
    go_simp
    refine (kinds_calls2 _ ns A cn (Kd.C_below HA.out HF5.out.to_below) HS.out).mono ?_
    rintro e Y6 ⟨⟨r, rfl, h1, h2⟩, hF⟩
    obtain rfl : r = 0 := h1.2 (HRK.out.1 rfl)
    have HF6 := Aside0.mk (HF5.out.trans hF (fun _ _ h => h))
    have HX6 := Aside0.mk (hF.blk HX5.out id)
    clear hF
    refine hK.out _ _ ((blk_cell HX6.out 0).trans rfl) (fun hHeld => ?_)
    clear hK K
    try simp only [Act.put, List.setIfInBounds_toArray, List.set_cons_zero, List.set_cons_succ]
    refine tk (v := .bool true) 3 ?_
    refine on 6 (fun K hK => ?_)
    go_simp
    refine (refkinds_calls _ ns A cn (Kd.C_below HA.out HF6.out.to_below) hcn _ HFN.out).mono ?_
    rintro e Y7 ⟨rfl, hF⟩
    have HF7 := Aside0.mk (HF6.out.trans hF (fun _ _ h => h))
    have HX7 := Aside0.mk (hF.blk HX6.out id)
    clear hF
    refine hK.out _ _ ((blk_cell HX7.out 0).trans rfl) (fun hHeld => ?_)
    clear hK K
    try simp only [Act.put, List.setIfInBounds_toArray, List.set_cons_zero, List.set_cons_succ]
    refine tk (v := .bool true) 7 ?_
    refine tk 8 ?_
    refine tk 9 ?_
    refine tk 10 ?_
    refine on 11 (fun K hK => ?_)
    go_simp
    refine (refkinds_calls _ ns A cn (Kd.C_below HA.out HF7.out.to_below) hcn _ HFN.out).mono ?_
    rintro e Y8 ⟨rfl, hF⟩
    have HF8 := Aside0.mk (HF7.out.trans hF (fun _ _ h => h))
    have HX8 := Aside0.mk (hF.blk HX7.out id)
    clear hF
    refine hK.out _ _ ((blk_cell HX8.out 0).trans rfl) (fun hHeld => ?_)
    clear hK K
    try simp only [Act.put, List.setIfInBounds_toArray, List.set_cons_zero, List.set_cons_succ]
    refine tk 12 ?_
    refine un 13 ?_
    refine un 14 ?_
    refine un 15 ?_
    refine un 16 ?_
    refine tk 17 ?_
    refine tk 18 ?_
    refine tk 19 ?_
    refine tk 20 ?_
    refine tk 21 ?_
    refine tk (v := .bool true) 22 ?_
    refine tk 23 ?_
    refine tk 24 ?_
    refine tk 25 ?_
    refine tk 26 ?_
    refine tk (v := .bool true) 27 ?_
    refine tk 28 ?_
    refine tk 29 ?_
    refine tk 30 ?_
    refine tk 31 ?_
    refine tk (v := .bool true) 32 ?_
    refine tk 33 ?_
    refine tk 34 ?_
    refine tk 35 ?_
    refine tk 36 ?_
    refine tk (v := .bool true) 37 ?_
    refine tk 38 ?_
    refine tk 39 ?_
    refine on 40 (fun K hK => ?_)
    go_simp
    refine (alive_calls _ (HM.out.fr HF8.out (fun _ _ => id))).mono ?_
    rintro e Y9 ⟨rfl, hF⟩
    have HF9 := Aside0.mk (HF8.out.trans hF (fun _ _ h => h))
    have HX9 := Aside0.mk (hF.blk HX8.out id)
    clear hF
    refine hK.out _ _ ((blk_cell HX9.out 0).trans rfl) (fun hHeld => ?_)
    clear hK K
    try simp only [Act.put, List.setIfInBounds_toArray, List.set_cons_zero, List.set_cons_succ]
    refine tk 41 ?_
    refine tk 42 ?_
    refine dn ?_
    go_wp2_with (fail)
    go_ret
    exact ⟨rfl, HF9.out.to_below⟩
end Go.Proofs.YtagokdbpgljgjaaDoor.Tok
