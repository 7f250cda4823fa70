/-
The reference's list: Push and Pop, walked.
-/
import Derived.Test.YtpjhflimaiaokaaHD
import Derived.Test.YtpjhflimaiaokaaProg
import Derived.Lib.Hide
import Derived.Outline
import Derived.Deep.RegionLaw
import Derived.IntWalk
namespace Go.Proofs.Ytpjhflimaiaokaa.Hand
open Go.RowKit Go.Proofs.YtpjhflimaiaokaaW.PrintWords Go.Proofs.YtpjhflimaiaokaaW.PrintLast Go.Proofs.YtpjhflimaiaokaaW.PrintMore Go.Proofs.Ytpjhflimaiaokaa.Fr
open Go.Proofs.Ytpjhflimaiaokaa.Sets (isNum)


/-- A list of the reference: v is a slice that reads as us. -/
abbrev RList (w : World) (B : Nat) (v : Value) (us : List Tk) : Prop := kT.R 34 w B (fun _ => True) v us
/-- How the reference's list answers a Push. -/
inductive RPush (us : List Tk) (n x : Int) : Bool → Int → List Tk → Prop where
  | bad (h : isNum n = false) : RPush us n x false 1 us
  | there (i : Nat) (h : isNum n = true) (hi : i < us.length) (he : (us.getD i Tk.z).n = n) (hle : ¬ x < (us.getD i Tk.z).w) : RPush us n x false 0 us
  | lighter (i : Nat) (h : isNum n = true) (hi : i < us.length) (he : (us.getD i Tk.z).n = n) (hlt : x < (us.getD i Tk.z).w) : RPush us n x false 0 (us.set i ⟨n, x⟩)
  | new (h : isNum n = true) (hno : ∀ j, j < us.length → (us.getD j Tk.z).n ≠ n) : RPush us n x true 0 (us ++ [⟨n, x⟩])
def RPushPost (w : World) (B : Nat) (us : List Tk) (n x : Int) (e : Ending) (w' : World) : Prop :=
  ∃ v' b k us', e = .returned (.tuple #[.agg #[v'], .bool b, .int .i64 k]) ∧ RPush us n x b k us' ∧ RList w' B v' us' ∧ Fr (fun _ => False) w w'
theorem rtask_info : (Try.prog.info? 34).map (fun i => (i.zero, i.size, i.bytes)) = some (some (.agg #[.int .i64 0, .int .i64 0]), 2, 16) := by kernel_rfl
theorem rlist_info : (Try.prog.info? 27).map (·.size) = some 1 := by kernel_rfl

section
variable {ops : Array Oper} {rest : List Oper} {o : Oper} {a : Act} {Q : Exit → Act → World → Prop}
theorem rtasks_info : (Try.prog.info? 34).map (fun i => (i.zero, i.size, i.bytes)) = some (some (.agg #[.int .i64 0, .int .i64 0]), kT.sz, 16) := rtask_info
/-- append(v, ys...) of tasks of the reference. -/
theorem app_rows {W : World} (B : Nat) (hgd : o.guard = none) (s x : Operand) (ho : o.op = .call { callee := .builtin .append, args := #[s, x], argTypes := #[25, 25] })
    (v : Value) (xs ys : List Tk) (A : Option Addr) (m c : Nat) (hs : a.eval s = v) (hx : a.eval x = .slice A m c) (HO : RList W B v xs) (HR : kT.C W A m ys) (hB : B ≤ W.heap.size) (hl : xs.length + m ≤ 4194304)
    (h : ∀ v1 w1, RList w1 B v1 (xs ++ ys) → W.grownBy w1 v.ownBlock → (v1.ownBlock = v.ownBlock ∨ ∃ b, v1.ownBlock = some b ∧ W.heap.size ≤ b) → wpList Try.prog ops Q rest (a.put o.dst v1) w1) : wpList Try.prog ops Q (o :: rest) a W :=
  Kd.R_append_rows kT B hgd s x 25 34 _ 16 ho Try.underlying25 rtasks_info rfl (by decide) (by decide) v xs ys A m c (fun _ => True) (fun _ => False) hs hx HO HR
    (fun y cs hy => by obtain rfl := kT_open hy; exact kT_mkM _ _ _ y) (fun _ hf => hf.elim) (fun _ _ => trivial) (Below.refl _ _) hB (by omega) (fun v1 w1 h1 _ h3 h4 => h v1 w1 h1 h3 h4)
theorem app_rows_step {K : Act → World → Prop} {W : World} (B : Nat) (hw : Region.wanted o (yielded ops a.tmps) = true) (s x : Operand) (ho : o.op = .call { callee := .builtin .append, args := #[s, x], argTypes := #[25, 25] })
    (v : Value) (xs ys : List Tk) (A : Option Addr) (m c : Nat) (hs : a.eval s = v) (hx : a.eval x = .slice A m c) (HO : RList W B v xs) (HR : kT.C W A m ys) (hB : B ≤ W.heap.size) (hl : xs.length + m ≤ 4194304)
    (h : ∀ v1 w1, RList w1 B v1 (xs ++ ys) → W.grownBy w1 v.ownBlock → (v1.ownBlock = v.ownBlock ∨ ∃ b, v1.ownBlock = some b ∧ W.heap.size ≤ b) → K (a.put o.dst v1) w1) :
    if Region.wanted o (yielded ops a.tmps) = true then Oper.wp Try.prog o a W K Q else K (a.put o.dst undef) W :=
  Kd.R_append_rows_step kT B hw s x 25 34 _ 16 ho Try.underlying25 rtasks_info rfl (by decide) (by decide) v xs ys A m c (fun _ => True) (fun _ => False) hs hx HO HR
    (fun y cs hy => by obtain rfl := kT_open hy; exact kT_mkM _ _ _ y) (fun _ hf => hf.elim) (fun _ _ => trivial) (Below.refl _ _) hB (by omega) (fun v1 w1 h1 _ h3 h4 => h v1 w1 h1 h3 h4)
/-- append(v, t) of a task of the reference. -/
theorem app_one {W : World} (B : Nat) (hgd : o.guard = none) (s x : Operand) (ho : o.op = .call { callee := .builtin .append, args := #[s, x], argTypes := #[25, 25] })
    (v : Value) (xs : List Tk) (p : Tk) (hs : a.eval s = v) (hx : a.eval x = .slice (some ⟨W.heap.size, 0, none⟩) 1 1) (HO : RList W B v xs) (hB : B ≤ W.heap.size) (hl : xs.length ≤ 4194304)
    (h : ∀ v1 w1, RList w1 B v1 (xs ++ [p]) → W.grownBy w1 v.ownBlock → (v1.ownBlock = v.ownBlock ∨ ∃ b, v1.ownBlock = some b ∧ W.heap.size ≤ b) → wpList Try.prog ops Q rest (a.put o.dst v1) w1) : wpList Try.prog ops Q (o :: rest) a (W.alloc (.cells #[.int .i64 p.n, .int .i64 p.w] 34)) :=
  Kd.R_append kT (w0 := W) B hgd s x 25 34 _ 16 ho Try.underlying25 rtasks_info rfl (by decide) (by decide) v xs p [.int .i64 p.n, .int .i64 p.w] (fun _ => True) (fun _ => False) hs hx (kT_mkM _ _ _ p) (fun _ hf => hf.elim) (fun _ _ => trivial) HO (Below.refl _ _) hB (by omega) (fun v1 w1 h1 _ h3 h4 => h v1 w1 h1 h3 h4)
end

theorem RList.weight {w : World} {B gr n cap : Nat} {ts : List Tk} (h : RList w B (.slice (some ⟨gr, 0, none⟩) n cap) ts) (i : Nat) (hi : i < n) (x : Int) :
    RList (w.setCell ⟨gr, i * 2 + 1, none⟩ (.int .i64 x)) B (.slice (some ⟨gr, 0, none⟩) n cap) (ts.set i ⟨(ts.getD i Tk.z).n, x⟩) ∧ w.grownBy (w.setCell ⟨gr, i * 2 + 1, none⟩ (.int .i64 x)) (some gr) ∧
    w.cell? ⟨gr, i * 2, none⟩ = some (.int .i64 (ts.getD i Tk.z).n) ∧ w.cell? ⟨gr, i * 2 + 1, none⟩ = some (.int .i64 (ts.getD i Tk.z).w) ∧ w.frozen? ⟨gr, i * 2 + 1, none⟩ = false := by
  obtain ⟨ci, hci, hMi, hi0, hif⟩ := Kd.R_elem h Tk.z (i : Int) (by omega) (by omega)
  simp only [Int.toNat_natCast] at hMi hi0 hif
  obtain rfl := kT_openM hMi
  have hi0' : ∀ (j : Nat) (u : Value), ([Value.int IntKind.i64 (ts.getD i Tk.z).n, Value.int IntKind.i64 (ts.getD i Tk.z).w] : List Value)[j]? = some u → w.cell? ⟨gr, ((i : Int)).toNat * kT.sz + j, none⟩ = some u := by simpa using hi0
  obtain ⟨r1, g1⟩ := Kd.R_seg h (i : Int) (by omega) (by omega) (seg := [.int .i64 x]) (j := 1) (x' := ⟨(ts.getD i Tk.z).n, x⟩) hci hi0' (Nat.le_refl 2) (kT_mkM w B (fun _ => False) ⟨(ts.getD i Tk.z).n, x⟩) (fun _ hf => hf.elim)
  simp only [Int.toNat_natCast] at r1 g1
  exact ⟨r1, g1, hi0 0 _ rfl, hi0 1 _ rfl, hif 1⟩
theorem RList.set {w : World} {B g : Nat} {v : Value} {us : List Tk} {cs : Array Value} (h : RList w B v us) (hb : w.heap[g]? = some (.cells cs 27 (0, 0))) (j : Nat) (u : Value) : RList (w.setCell ⟨g, j, none⟩ u) B v us :=
  Kd.R_mono (Kd.R_set h hb (by intro q hq; simp only [List.mem_cons] at hq; rcases hq with rfl | hq; decide; exact absurd hq (by simp [kT, Kd.iso, Kd.pair, Kd.int, Kd.scalar])) j u) (fun _ _ => trivial)
theorem RList.ne {w : World} {B g : Nat} {v : Value} {us : List Tk} {cs : Array Value} (h : RList w B v us) (hb : w.heap[g]? = some (.cells cs 27 (0, 0))) : some g ≠ v.ownBlock := Kd.R_ne h hb (by decide)

set_option maxRecDepth 100000 in
theorem rPush_calls (w : World) (B : Nat) (v : Value) (us : List Tk) (h : RList w B v us) (hB : B ≤ w.heap.size) (hl : us.length ≤ 1048576) (n x : Int) :
    Calls Try.prog 11 #[.agg #[v], .int .i64 n, .int .i64 x] w (RPushPost w B us n x) := by
  obtain ⟨A, cap, rfl, hcap, hC⟩ := Kd.R_reads h
  have hu := Try.underlying27
  have hu2 := Try.underlying34
  have HH := Aside0.mk h
  have HC := Aside0.mk hC
  clear h hC
  by_cases hb : 0 ≤ n ∧ n < 1048576
  · have HB := Lib.hid (show isNum n = true by simp [isNum, hb])
    obtain ⟨hb1, hb2⟩ := hb
    go_enter Try.func11, Try.ntmps11
    go_wp2_with (at_builtin; refine app_rows w.heap.size rfl _ _ rfl (.slice none 0 0) [] us A _ _ rfl rfl (Kd.R_nil _ _ _ _ _) (by repeat (first | exact HC.out | apply Kd.C_alloc)) (by simp; omega) (by simp; omega) ?_; intro v1 w1 h1 h2 _; obtain ⟨A1, c1, rfl⟩ := Kd.R_slice h1; have HR := Aside0.mk h1; have HB1 := Aside0.mk (blk_grown (blk_new (w.alloc (.cells #[.slice A us.length cap] 27)) (.cells #[.slice none 0 0] 27)) h2 (by simp [Value.ownBlock])); have HF := Aside0.mk ((((Fr.refl (fun _ => False) w).alloc _).alloc _).grown h2 (fun k hk _ => by simp [Value.ownBlock] at hk)); clear h1 h2)
    simp only [List.nil_append, World.size_alloc] at HR HB1 ⊢
    have hcr := blk_cell HB1.out 0
    have hfr := blk_frozen HB1.out 0
    simp only [List.getElem?_toArray, List.getElem?_cons_zero] at hcr
    go_loop [10] (fun a => ∃ k : Nat, a = .int .i64 k ∧ k ≤ us.length ∧ Aside0 (∀ j, j < k → (us.getD j Tk.z).n ≠ n)) (fun a => us.length - (intOf a).toNat)
    case atStart => exact ⟨0, rfl, Nat.zero_le _, ⟨fun j hj => by omega⟩⟩
    case round =>
      obtain ⟨k, rfl, hk, HK⟩ := hrel
      by_cases hlt : k < us.length
      · obtain ⟨gr, cap', e, hgB, _⟩ := Kd.R_form HR.out (by omega)
        injection e with e1 _ e3
        subst e1 e3
        obtain ⟨hT, hG, hn, hw, hf⟩ := RList.weight HR.out k hlt x
        obtain ⟨t, ht⟩ : ∃ t, t = us.getD k Tk.z := ⟨_, rfl⟩
        rw [← ht] at hT hn hw
        have HT := Aside0.mk hT
        have HG := Aside0.mk hG
        have HQ := Lib.hid ht
        have hgne : gr ≠ w.heap.size + 1 := fun e => RList.ne HR.out HB1.out (by simp [Value.ownBlock, e])
        clear hT hG ht
        by_cases hen : t.n = n
        · have HE := Lib.hid hen
          have heb := beq_iff_eq.mpr hen
          clear hen
          by_cases hx : x < t.w
          · have hcr2 : (w1.setCell ⟨gr, k * 2 + 1, none⟩ (.int .i64 x)).cell? ⟨w.heap.size + 1, 0, none⟩ = some (.slice none 0 0) := (cell_far (fun e => hgne e.symm) _).trans hcr
            go_wp2_with (fail)
            have hbf := blk_far HB1.out (p := ⟨gr, k * 2 + 1, none⟩) (fun e => hgne e.symm) (.int .i64 x)
            exact bodyPost_ret (results_ctt rfl _ _ (w.heap.size + 1) 27 #[.slice (some ⟨gr, 0, none⟩) us.length c1] (0, 0) _ rfl (blk_put hbf 0 _ rfl) hu rfl rlist_info) rfl
              ⟨_, _, _, _, rfl, .lighter k HB.out hlt (by rw [← HQ.out]; exact HE.out) (by rw [← HQ.out]; exact hx), Kd.R_lower (RList.set (by rw [← HE.out]; exact HT.out) hbf 0 _) hB, (HF.out.grown HG.out (fun q hq hlt => by injection hq with hq; omega)).set _ (fun hh => by omega)⟩
          · have hx' : t.w ≤ x := by omega
            have HX := Lib.hid hx
            clear hx
            go_wp2_with (fail)
            exact bodyPost_ret (results_ctt rfl _ _ (w.heap.size + 1) 27 #[.slice (some ⟨gr, 0, none⟩) us.length c1] (0, 0) _ rfl (blk_put HB1.out 0 _ rfl) hu rfl rlist_info) rfl
              ⟨_, _, _, _, rfl, .there k HB.out hlt (by rw [← HQ.out]; exact HE.out) (by rw [← HQ.out]; exact Int.not_lt.mpr HX.out), Kd.R_lower (RList.set HR.out HB1.out 0 _) hB, HF.out.set _ (fun hh => by omega)⟩
        · have heb := beq_eq_false_iff_ne.mpr hen
          have HE := Lib.hid hen
          clear hen
          go_wp2_with (fail)
          exact ⟨⟨k + 1, by go_num, by omega, ⟨fun j hj => by
            by_cases e : j = k
            · rw [e, ← HQ.out]; exact HE.out
            · exact HK.out j (by omega)⟩⟩, by simp [intOf]; omega⟩
      · have HN := Aside0.mk (show ∀ j, j < us.length → (us.getD j Tk.z).n ≠ n from fun j hj => HK.out j (by omega))
        go_wp2_with (at_builtin; refine app_one w.heap.size rfl _ _ rfl (.slice A1 us.length c1) us ⟨n, x⟩ rfl rfl HR.out HF.out.size (by omega) ?_; intro v2 w2 h1 h2 _; obtain ⟨A2, c2, rfl⟩ := Kd.R_slice h1; have HR2 := Aside0.mk (show RList w2 w.heap.size (.slice A2 (us.length + 1) c2) (us ++ [⟨n, x⟩]) by simpa using h1); have hb2 := blk_grown HB1.out h2 (RList.ne HR.out HB1.out); have HB2 := Aside0.mk hb2; have hcr2 := blk_cell hb2 0; have hfr2 := blk_frozen hb2 0; have HF2 := Aside0.mk (HF.out.grown h2 (fun k hk hh => by have := Kd.R_base HR.out k hk; omega)); clear h1 h2 hb2)
        exact bodyPost_ret (results_ctt rfl _ _ (w.heap.size + 1) 27 #[.slice A2 (us.length + 1) c2] (0, 0) _ rfl (blk_put HB2.out 0 _ rfl) hu rfl rlist_info) rfl
          ⟨_, _, _, _, rfl, .new HB.out HN.out, Kd.R_lower (RList.set HR2.out HB2.out 0 _) hB, HF2.out.set _ (fun hh => by omega)⟩
  · have HB := Lib.hid (show isNum n = false by simp only [isNum, decide_eq_false_iff_not]; exact hb)
    have hb' : n < 0 ∨ 1048576 ≤ n := by omega
    have hend : bodyPost Try.prog Try.f11 (RPushPost w B us n x) Exit.ret = bodyPost Try.prog Try.f11 (RPushPost w B us n x) Exit.ret := rfl
    clear hend
    rcases hb' with h1 | h1
    · have h2 : ¬ 0 ≤ n := by omega
      clear hb
      go_enter Try.func11, Try.ntmps11
      go_wp2_with (fail)
      exact bodyPost_ret (results_ctt rfl _ _ (w.heap.size + 1) 27 #[.slice A us.length cap] (0, 0) _ rfl (by simpa using blk_new (w.alloc (.cells #[.slice A us.length cap] 27)) (.cells #[.slice A us.length cap] 27)) hu rfl rlist_info) rfl ⟨_, _, _, _, rfl, .bad HB.out, by repeat (first | exact HH.out | apply Kd.R_alloc), ((Fr.refl _ _).alloc _).alloc _⟩
    · have h2 : 0 ≤ n := by omega
      clear hb
      go_enter Try.func11, Try.ntmps11
      go_wp2_with (fail)
      exact bodyPost_ret (results_ctt rfl _ _ (w.heap.size + 1) 27 #[.slice A us.length cap] (0, 0) _ rfl (by simpa using blk_new (w.alloc (.cells #[.slice A us.length cap] 27)) (.cells #[.slice A us.length cap] 27)) hu rfl rlist_info) rfl ⟨_, _, _, _, rfl, .bad HB.out, by repeat (first | exact HH.out | apply Kd.R_alloc), ((Fr.refl _ _).alloc _).alloc _⟩

/-- The reference's list: the first of the least is at k. -/
def LeastAt (us : List Tk) (k : Nat) (i : Nat) : Prop := k < i ∧ ∀ j, j < i → less (us.getD j Tk.z) (us.getD k Tk.z) = false
inductive RPop (us : List Tk) : Tk → Bool → List Tk → Prop where
  | none (h : us = []) : RPop us Tk.z false us
  | some (k : Nat) (hk : LeastAt us k us.length) : RPop us (us.getD k Tk.z) true (us.take k ++ us.drop (k + 1))
def RPopPost (w : World) (B : Nat) (us : List Tk) (e : Ending) (w' : World) : Prop :=
  ∃ v' t b us', e = .returned (.tuple #[.agg #[v'], .agg #[.int .i64 t.n, .int .i64 t.w], .bool b]) ∧ RPop us t b us' ∧ RList w' B v' us' ∧ Fr (fun _ => False) w w'
theorem rtask_size : (Try.prog.info? 34).map (·.size) = some 2 := by kernel_rfl
theorem results_cct {P : Program} {fn : Func} {p p' u : Tmp} {ty ty' : TypeId} (h : fn.results = #[.cell p ty, .cell p' ty', .tmp u]) (tmps : Array Value) (w : World) (g g' : Nat) (t t' : TypeId) (cs cs' : Array Value) (fr fr' : Nat × Nat) (d d' : TypeDesc)
    (hp : tmps.getD p undef = .pointer (some ⟨g, 0, none⟩)) (hg : w.heap[g]? = some (.cells cs t fr))
    (hu : P.underlying ty = some d) (hd : (match d with | .struct _ | .array _ _ => true | _ => false) = true) (hi : (P.info? ty).map (·.size) = some cs.size)
    (hp' : tmps.getD p' undef = .pointer (some ⟨g', 0, none⟩)) (hg' : w.heap[g']? = some (.cells cs' t' fr'))
    (hu' : P.underlying ty' = some d') (hd' : (match d' with | .struct _ | .array _ _ => true | _ => false) = true) (hi' : (P.info? ty').map (·.size) = some cs'.size) :
    (results fn tmps).run P w = .ok (.tuple #[.agg cs, .agg cs', tmps.getD u undef]) w := by
  have h1 : tmps[p]?.getD undef = .pointer (some ⟨g, 0, none⟩) := by simpa using hp
  have h2 : tmps[p']?.getD undef = .pointer (some ⟨g', 0, none⟩) := by simpa using hp'
  simp [results, h, h1, h2, asAddr, run_loadVar_row w g t ty cs fr d hg hu hd hi, run_loadVar_row w g' t' ty' cs' fr' d' hg' hu' hd' hi']

theorem less_1 {a b : Tk} (h : a.w < b.w) : less a b = true := by simp [less, h]
theorem less_2 {a b : Tk} (_h : ¬ a.w < b.w) (h2 : a.w = b.w) (h3 : a.n < b.n) : less a b = true := by simp [less, h2, h3]
theorem less_3 {a b : Tk} (_h : ¬ a.w < b.w) (h2 : a.w = b.w) (h3 : ¬ a.n < b.n) : less a b = false := by simp [less, h2, h3]
theorem less_4 {a b : Tk} (h : ¬ a.w < b.w) (h2 : ¬ a.w = b.w) : less a b = false := by simp [less, h, h2]
theorem less_trans_false {a b c : Tk} (h1 : less a b = true) (h2 : less c b = false) : less c a = false := by
  simp only [less, Bool.or_eq_true, Bool.and_eq_true, decide_eq_true_eq, Bool.or_eq_false_iff, Bool.and_eq_false_iff, decide_eq_false_iff_not] at *
  omega
theorem less_self (a : Tk) : less a a = false := by simp [less]
theorem LeastAt.up {us : List Tk} {k i : Nat} (h : LeastAt us k i) (hl : less (us.getD i Tk.z) (us.getD k Tk.z) = true) : LeastAt us i (i + 1) := by
  refine ⟨by omega, fun j hj => ?_⟩
  by_cases e : j = i
  · rw [e]; exact less_self _
  · exact less_trans_false hl (h.2 j (by omega))
theorem LeastAt.stay {us : List Tk} {k i : Nat} (h : LeastAt us k i) (hl : less (us.getD i Tk.z) (us.getD k Tk.z) = false) : LeastAt us k (i + 1) := by
  refine ⟨by have := h.1; omega, fun j hj => ?_⟩
  by_cases e : j = i
  · rw [e]; exact hl
  · exact h.2 j (by omega)

theorem RList.far {w : World} {B : Nat} {v : Value} {us : List Tk} (h : RList w B v us) {g o : Nat} (hp : g < B) (u : Value) : RList (w.setCell ⟨g, o, none⟩ u) B v us :=
  Kd.R_mono (Kd.R_far (Kd.R_mono (ok' := fun k => B ≤ k) (Kd.R_bound h) (fun k hk => hk.2.1)) (p := ⟨g, o, none⟩) (fun k hk e => by have e : k = g := e; omega) u) (fun _ _ => trivial)
structure PopW (w : World) (B : Nat) (A : Option Addr) (n cap : Nat) (us : List Tk) (W : World) : Prop where
  b1 : W.heap[w.heap.size]? = some (.cells #[.slice A n cap] 27 (0, 0))
  b2 : W.heap[w.heap.size + 1]? = some (.cells #[.slice none 0 0] 27 (0, 0))
  b3 : W.heap[w.heap.size + 1 + 1]? = some (.cells #[.int .i64 0, .int .i64 0] 34 (0, 0))
  fr : Fr (fun _ => False) w W
  row : RList W B (.slice A n cap) us
  rd : kT.C W A n us
theorem PopW.drewN {w W : World} {B : Nat} {A : Option Addr} {n cap : Nat} {us : List Tk} (h : PopW w B A n cap us W) (q : Nat) : PopW w B A n cap us (W.drewN q) := ⟨h.b1, h.b2, h.b3, h.fr.drewN q, Kd.R_drewN h.row q, Kd.C_drewN h.rd q⟩

structure PopX (w wr : World) (B : Nat) (A : Option Addr) (n cap : Nat) (us : List Tk) (b : Tk) (W : World) : Prop where
  b1 : W.heap[w.heap.size]? = some (.cells #[.slice A n cap] 27 (0, 0))
  b2 : W.heap[w.heap.size + 1]? = some (.cells #[.slice none 0 0] 27 (0, 0))
  b3 : W.heap[w.heap.size + 1 + 1]? = some (.cells #[.int .i64 0, .int .i64 0] 34 (0, 0))
  fr : Fr (fun _ => False) w W
  rd0 : kT.C (wr.alloc (.cells #[.int .i64 b.n, .int .i64 b.w] 34)) A n us
  bel : Below (wr.alloc (.cells #[.int .i64 b.n, .int .i64 b.w] 34)).heap.size (wr.alloc (.cells #[.int .i64 b.n, .int .i64 b.w] 34)) W
  b7 : W.heap[wr.heap.size]? = some (.cells #[.int .i64 b.n, .int .i64 b.w] 34 (0, 0))
  le : wr.heap.size + 1 ≤ W.heap.size
  hB : B ≤ w.heap.size
  lt : w.heap.size + 1 + 1 < wr.heap.size
theorem PopX.rd {w wr W : World} {B : Nat} {A : Option Addr} {n cap : Nat} {us : List Tk} {b : Tk} (h : PopX w wr B A n cap us b W) : kT.C W A n us := Kd.C_below h.rd0 h.bel
theorem PopW.box {w wr : World} {B : Nat} {A : Option Addr} {n cap : Nat} {us : List Tk} (h : PopW w B A n cap us wr) (hB : B ≤ w.heap.size) (b : Tk) : PopX w wr B A n cap us b (wr.alloc (.cells #[.int .i64 b.n, .int .i64 b.w] 34)) :=
  ⟨blk_alloc h.b1 _, blk_alloc h.b2 _, blk_alloc h.b3 _, h.fr.alloc _, Kd.C_alloc h.rd _, Below.refl _ _, blk_new _ _, by simp, hB, blk_lt h.b3⟩
theorem PopX.drew {w wr W : World} {B : Nat} {A : Option Addr} {n cap : Nat} {us : List Tk} {b : Tk} (h : PopX w wr B A n cap us b W) : PopX w wr B A n cap us b W.drew :=
  ⟨h.b1, h.b2, h.b3, h.fr.drew, h.rd0, below_drew h.bel, h.b7, h.le, h.hB, h.lt⟩
theorem PopX.c1 {w wr W : World} {B : Nat} {A : Option Addr} {n cap : Nat} {us : List Tk} {b : Tk} (h : PopX w wr B A n cap us b W) : W.cell? ⟨w.heap.size, 0, none⟩ = some (.slice A n cap) := (blk_cell h.b1 0).trans rfl
theorem PopX.c7 {w wr W : World} {B : Nat} {A : Option Addr} {n cap : Nat} {us : List Tk} {b : Tk} (h : PopX w wr B A n cap us b W) : W.cell? ⟨wr.heap.size, 0, none⟩ = some (.int .i64 b.n) := (blk_cell h.b7 0).trans rfl
theorem PopX.c8 {w wr W : World} {B : Nat} {A : Option Addr} {n cap : Nat} {us : List Tk} {b : Tk} (h : PopX w wr B A n cap us b W) : W.cell? ⟨wr.heap.size, 1, none⟩ = some (.int .i64 b.w) := (blk_cell h.b7 1).trans rfl
theorem PopX.c2 {w wr W : World} {B : Nat} {A : Option Addr} {n cap : Nat} {us : List Tk} {b : Tk} (h : PopX w wr B A n cap us b W) : W.cell? ⟨w.heap.size + 1, 0, none⟩ = some (.slice none 0 0) := (blk_cell h.b2 0).trans rfl
theorem PopX.c3 {w wr W : World} {B : Nat} {A : Option Addr} {n cap : Nat} {us : List Tk} {b : Tk} (h : PopX w wr B A n cap us b W) : W.cell? ⟨w.heap.size + 1 + 1, 0, none⟩ = some (.int .i64 0) := (blk_cell h.b3 0).trans rfl
theorem PopX.c4 {w wr W : World} {B : Nat} {A : Option Addr} {n cap : Nat} {us : List Tk} {b : Tk} (h : PopX w wr B A n cap us b W) : W.cell? ⟨w.heap.size + 1 + 1, 1, none⟩ = some (.int .i64 0) := (blk_cell h.b3 1).trans rfl
theorem PopX.grown {w wr W W1 : World} {B : Nat} {A : Option Addr} {n cap : Nat} {us : List Tk} {b : Tk} (h : PopX w wr B A n cap us b W) {row : Option Nat} (hg : W.grownBy W1 row) (hr : ∀ k, row = some k → wr.heap.size + 1 ≤ k) : PopX w wr B A n cap us b W1 := by
  have hlt := h.lt
  have ne : ∀ j, j < wr.heap.size + 1 → some j ≠ row := fun j hj e => by have := hr j e.symm; omega
  exact ⟨blk_grown h.b1 hg (ne _ (by omega)), blk_grown h.b2 hg (ne _ (by omega)), blk_grown h.b3 hg (ne _ (by omega)), h.fr.grown hg (fun k hk hh => by have := hr k hk; omega), h.rd0,
    h.bel.grown hg (by simpa using h.le) (fun k hk => by simpa using hr k hk), blk_grown h.b7 hg (ne _ (by omega)), Nat.le_trans h.le hg.size, h.hB, hlt⟩

theorem C_dropk {W : World} {ad : Addr} {i k cap : Nat} {us : List Tk} (h : kT.C W (some ad) i us) (hk : k + 1 ≤ i) (hc : i ≤ cap) : kT.C W (if cap = k + 1 then some ad else some (ad.add ((k + 1) * 2))) (i - (k + 1)) (us.drop (k + 1)) := by
  have hn := Kd.C_len h
  subst hn
  have := Kd.C_drop (m := k + 1) (c := cap) h hk hc
  rwa [List.length_drop] at this

theorem popEnd {w wr W : World} {B : Nat} {A : Option Addr} {n k cap : Nat} {us : List Tk} {b : Tk} {v : Value} (h : PopX w wr B A n cap us b W) (hr : RList W (wr.heap.size + 1) v (us.take k ++ us.drop (k + 1))) (hn : n = us.length) (hl : LeastAt us k n) (hb : b = us.getD k Tk.z) :
    RPopPost w B us (.returned (.tuple #[.agg #[v], .agg #[.int .i64 b.n, .int .i64 b.w], .bool true])) (((W.setCell ⟨w.heap.size + 1, 0, none⟩ v).setCell ⟨w.heap.size + 1 + 1, 0, none⟩ (.int .i64 b.n)).setCell ⟨w.heap.size + 1 + 1, 1, none⟩ (.int .i64 b.w)) := by
  have hlt := h.lt
  subst hb
  subst hn
  exact ⟨v, _, true, _, rfl, .some k hl, Kd.R_lower (((hr.far (by omega) _).far (by omega) _).far (by omega) _) (by have := h.hB; omega), ((h.fr.set _ (fun hh => by omega)).set _ (fun hh => by omega)).set _ (fun hh => by omega)⟩

set_option maxRecDepth 100000 in
set_option maxHeartbeats 1000000 in
theorem rPop_calls (w : World) (B : Nat) (v : Value) (us : List Tk) (h : RList w B v us) (hB : B ≤ w.heap.size) (hl : us.length ≤ 1048576) :
    Calls Try.prog 9 #[.agg #[v]] w (RPopPost w B us) := by
  obtain ⟨A, cap, rfl, hcap, hC⟩ := Kd.R_reads h
  have hu := Try.underlying27
  have hu2 := Try.underlying34
  have HH := Aside0.mk h
  have HC := Aside0.mk hC
  clear h hC
  by_cases he : us = []
  · subst he
    go_enter Try.func9, Try.ntmps9
    go_wp2_with (fail)
    exact bodyPost_ret (results_cct rfl _ _ (w.heap.size + 1) (w.heap.size + 1 + 1) 27 34 #[.slice A 0 cap] #[.int .i64 0, .int .i64 0] (0, 0) (0, 0) _ _ rfl (blk_alloc (by simpa using blk_new (w.alloc (.cells #[.slice A 0 cap] 27)) (.cells #[.slice A 0 cap] 27)) _) hu rfl rlist_info
      rfl (by simpa using blk_new ((w.alloc (.cells #[.slice A 0 cap] 27)).alloc (.cells #[.slice A 0 cap] 27)) (.cells #[.int .i64 0, .int .i64 0] 34)) hu2 rfl rtask_size) rfl ⟨_, Tk.z, _, _, rfl, .none rfl, by repeat (first | exact HH.out | apply Kd.R_alloc), (((Fr.refl _ _).alloc _).alloc _).alloc _⟩
  · have hp : 0 < us.length := List.length_pos_iff.2 he
    clear he
    obtain ⟨n, hn⟩ : ∃ n, n = us.length := ⟨_, rfl⟩
    rw [← hn] at HH HC hp hl hcap ⊢
    have HN := Lib.hid hn
    have hnz : ((n : Int) == 0) = false := beq_eq_false_iff_ne.mpr (by omega)
    clear hn
    go_enter Try.func9, Try.ntmps9
    go_wp2_with (fail)
    go_loopw [5, 6] (fun a b W => ∃ k i : Nat, a = .int .i64 k ∧ b = .int .i64 i ∧ i ≤ n ∧ k < i ∧ Aside0 (LeastAt us k i) ∧ Aside0 (PopW w B A n cap us W)) (fun a b W => n - (intOf b).toNat)
    case atStart => exact ⟨0, 1, rfl, rfl, hp, by omega, ⟨⟨by omega, fun j hj => by obtain rfl : j = 0 := by omega
                                                                                    exact less_self _⟩⟩,
      ⟨⟨blk_alloc (blk_alloc (blk_new _ _) _) _, blk_alloc (by simpa using blk_new (w.alloc (.cells #[.slice A n cap] 27)) (.cells #[.slice none 0 0] 27)) _, by simpa using blk_new ((w.alloc (.cells #[.slice A n cap] 27)).alloc (.cells #[.slice none 0 0] 27)) (.cells #[.int .i64 0, .int .i64 0] 34), (((Fr.refl _ _).alloc _).alloc _).alloc _, by repeat (first | exact HH.out | apply Kd.R_alloc), by repeat (first | exact HC.out | apply Kd.C_alloc)⟩⟩⟩
    case round =>
      obtain ⟨k, i, rfl, rfl, hi, hk, HL, HW⟩ := hrel
      have c1 := blk_cell HW.out.b1 0
      simp only [List.getElem?_toArray, List.getElem?_cons_zero] at c1
      by_cases hlt : i < n
      · obtain ⟨ad, rfl, i1, i2⟩ := at_tk HW.out.rd (i : Int) (by omega) (by omega)
        obtain ⟨ad', e, k1, k2⟩ := at_tk HW.out.rd (k : Int) (by omega) (by omega)
        cases e
        simp only [Int.toNat_natCast] at i1 i2 k1 k2
        obtain ⟨a, ha⟩ : ∃ a, a = us.getD i Tk.z := ⟨_, rfl⟩
        obtain ⟨b, hb⟩ : ∃ b, b = us.getD k Tk.z := ⟨_, rfl⟩
        rw [← ha] at i1 i2
        rw [← hb] at k1 k2
        have HA := Lib.hid ha
        have HB := Lib.hid hb
        clear ha hb
        by_cases h1 : a.w < b.w
        · have HE := Lib.hid (less_1 h1)
          go_wp2_with (fail)
          go_quiet (fail)
          go_wp2_with (fail)
          exact ⟨⟨i, i + 1, rfl, by go_num, by omega, by omega, ⟨HL.out.up (by rw [← HA.out, ← HB.out]; exact HE.out)⟩, ⟨HW.out.drewN _⟩⟩, by simp [intOf]; omega⟩
        · have d1 : decide (a.w < b.w) = false := decide_eq_false h1
          by_cases h2 : a.w = b.w
          · have e1 : (a.w == b.w) = true := beq_iff_eq.mpr h2
            by_cases h3 : a.n < b.n
            · have HE := Lib.hid (less_2 h1 h2 h3)
              clear h1 h2
              go_wp2_with (fail)
              go_quiet (fail)
              go_wp2_with (fail)
              exact ⟨⟨i, i + 1, rfl, by go_num, by omega, by omega, ⟨HL.out.up (by rw [← HA.out, ← HB.out]; exact HE.out)⟩, ⟨HW.out.drewN _⟩⟩, by simp [intOf]; omega⟩
            · have d3 : decide (a.n < b.n) = false := decide_eq_false h3
              have HE := Lib.hid (less_3 h1 h2 h3)
              clear h1 h2 h3
              go_wp2_with (fail)
              go_quiet (fail)
              go_wp2_with (fail)
              exact ⟨⟨k, i + 1, rfl, by go_num, by omega, by omega, ⟨HL.out.stay (by rw [← HA.out, ← HB.out]; exact HE.out)⟩, ⟨HW.out.drewN _⟩⟩, by simp [intOf]; omega⟩
          · have e1 : (a.w == b.w) = false := beq_eq_false_iff_ne.mpr h2
            have HE := Lib.hid (less_4 h1 h2)
            clear h1 h2
            go_wp2_with (fail)
            go_quiet (fail)
            go_wp2_with (fail)
            exact ⟨⟨k, i + 1, rfl, by go_num, by omega, by omega, ⟨HL.out.stay (by rw [← HA.out, ← HB.out]; exact HE.out)⟩, ⟨HW.out.drewN _⟩⟩, by simp [intOf]; omega⟩
      · obtain rfl : i = n := by omega
        obtain ⟨ad, rfl, k1, k2⟩ := at_tk HW.out.rd (k : Int) (by omega) (by omega)
        simp only [Int.toNat_natCast] at k1 k2
        obtain ⟨b, hb⟩ : ∃ b, b = us.getD k Tk.z := ⟨_, rfl⟩
        rw [← hb] at k1 k2
        have HB := Lib.hid hb
        clear hb
        have hk1 : k + 1 ≤ i := by omega
        have hk2 : k ≤ cap := by omega
        have hk3 : k + 1 ≤ cap := by omega
        have HX := Aside0.mk (HW.out.box hB b)
        have hX1 := HX.out.c1
        have hX7 := HX.out.c7
        have hX8 := HX.out.c8
        have HT1 := Aside0.mk (show kT.C (wr.alloc (.cells #[.int .i64 b.n, .int .i64 b.w] 34)) (some ad) k (us.take k) by
          have := Kd.C_take (m := k) (show kT.C (wr.alloc (.cells #[.int .i64 b.n, .int .i64 b.w] 34)) (some ad) us.length us by rw [← HN.out]; exact HX.out.rd) (by rw [← HN.out]; omega)
          rwa [List.length_take, Nat.min_eq_left (by rw [← HN.out]; omega)] at this)
        have HL2 := Lib.hid (show (us.take k).length = k by rw [List.length_take]; have := HN.out; omega)
        have o1 := Aside0.mk (show ([] : List Tk).length + k ≤ 4194304 by simp; omega)
        have o2 := Aside0.mk (show (us.take k).length + (i - (k + 1)) ≤ 4194304 by rw [HL2.out]; omega)
        have o4 := Aside0.mk (show k + 1 ≤ i ∧ i ≤ cap from ⟨by omega, by omega⟩)
        have o3 := Aside0.mk (show wr.heap.size + 1 ≤ (wr.alloc (.cells #[.int .i64 b.n, .int .i64 b.w] 34)).heap.size by simp)
        have hd1 : w.heap.size + 1 ≠ wr.heap.size := by have := blk_lt HW.out.b3; omega
        have hd2 : wr.heap.size ≠ w.heap.size + 1 := fun e => hd1 e.symm
        have hs1 : IntKind.i64.wrap ((k : Int) + 1) = (k : Int) + 1 := IntWalk.i64_in _ (by omega)
        have hs2 : (0 : Int) ≤ (k : Int) + 1 := by omega
        have hs3 : (k : Int) + 1 ≤ (i : Int) := by omega
        have hs4 : ((k : Int) + 1).toNat = k + 1 := by omega
        go_wp2_with (fail)
        go_region_law (first | (refine app_rows_step (wr.heap.size + 1) rfl _ _ rfl (.slice none 0 0) [] (us.take k) (some ad) k cap (by first | rfl | simp [Act.eval]) (by first | rfl | simp [Act.eval, Act.put]) (Kd.R_nil _ _ _ _ _) (Kd.C_drew HT1.out) o3.out o1.out ?_; intro v1 w1 h1 h2 _; obtain ⟨A1, c1', rfl⟩ := Kd.R_slice h1; have HX1 := Aside0.mk (PopX.grown (PopX.drew HX.out) h2 (by simp [Value.ownBlock])); have hY1 := HX1.out.c1; have hY7 := HX1.out.c7; have hY8 := HX1.out.c8; have HR1 := Aside0.mk (show RList w1 (wr.heap.size + 1) (.slice A1 (min k us.length) c1') (us.take k) by simpa using h1); clear h1 h2) |
          (refine app_rows_step (wr.heap.size + 1) rfl _ _ rfl (.slice A1 (min k us.length) c1') (us.take k) (us.drop (k + 1)) (if cap = k + 1 then some ad else some (ad.add ((k + 1) * 2))) (i - (k + 1)) _ (by first | rfl | simp [Act.eval]) (by first | rfl | simp [Act.eval, Act.put]) HR1.out (C_dropk HX1.out.rd o4.out.1 o4.out.2) HX1.out.le o2.out ?_; intro v2 w2 h1 h2 _; obtain ⟨A2, c2', rfl⟩ := Kd.R_slice h1; have HX2 := Aside0.mk (PopX.grown HX1.out h2 (fun q hq => Kd.R_base HR1.out q hq)); have hZ1 := HX2.out.c1; have hZ7 := HX2.out.c7; have hZ8 := HX2.out.c8; have hz2 := HX2.out.c2; have hf2 := blk_frozen HX2.out.b2 0; have hz3 := HX2.out.c3; have hz4 := HX2.out.c4; have hf3 := blk_frozen HX2.out.b3 0; have hf4 := blk_frozen HX2.out.b3 1; have HR2 := Aside0.mk h1; clear h1 h2))
        all_goals go_wp2_with (fail)
        all_goals exact bodyPost_ret (results_cct rfl _ _ (w.heap.size + 1) (w.heap.size + 1 + 1) 27 34 #[.slice A2 (min k us.length + (us.length - (k + 1))) c2'] #[.int .i64 b.n, .int .i64 b.w] (0, 0) (0, 0) _ _ rfl
          (blk_far (blk_far (blk_put HX2.out.b2 0 _ rfl) (by simp) _) (by simp) _) hu rfl rlist_info rfl (blk_put (blk_put (blk_far HX2.out.b3 (by simp) _) 0 _ rfl) 1 _ rfl) hu2 rfl rtask_size) rfl (popEnd HX2.out (by simpa using HR2.out) HN.out HL.out HB.out)
end Go.Proofs.Ytpjhflimaiaokaa.Hand
