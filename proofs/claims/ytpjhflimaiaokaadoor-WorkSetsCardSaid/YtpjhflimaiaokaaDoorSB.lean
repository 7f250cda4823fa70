/-
The set of numbers: Add, walked.
-/
import Derived.Test.YtpjhflimaiaokaaDoorSA
import Derived.Test.YtpjhflimaiaokaaDoorProg
import Derived.Lib.Hide
import Derived.Outline
import Derived.IntWalk
import Derived.Deep.DeepMust
namespace Go.Proofs.YtpjhflimaiaokaaDoor.SetW
open Go.RowKit Go.Proofs.YtpjhflimaiaokaaDoorW.PrintWords Go.Proofs.YtpjhflimaiaokaaDoorW.PrintLast Go.Proofs.YtpjhflimaiaokaaDoorW.PrintMore Go.Proofs.YtpjhflimaiaokaaDoor.Fr Go.Proofs.YtpjhflimaiaokaaDoor.Sets


/-- What a call on a set may turn. -/
def SFoot (g : Nat) (sv : Value) (i : Nat) : Prop := i = g ∨ sv.ownBlock = some i
/-- A call has left the set l' in block g. -/
def STurned (w : World) (B g : Nat) (sv : Value) (l' : List Int) (w' : World) : Prop :=
  ∃ sv', Nums w' B g sv' l' ∧ Fr (SFoot g sv) w w' ∧ (sv'.ownBlock = sv.ownBlock ∨ ∃ b, sv'.ownBlock = some b ∧ w.heap.size ≤ b)
theorem STurned.refl {w : World} {B g : Nat} {sv : Value} {l : List Int} (h : Nums w B g sv l) : STurned w B g sv l w := ⟨sv, h, Fr.refl _ _, .inl rfl⟩
theorem nums_row_set {w1 : World} {B g : Nat} {sv sv1 : Value} {l1 : List Int} (hR : kI.R 3 w1 B (fun _ => True) sv1 l1) (hb : w1.heap[g]? = some (.cells #[sv] 67 (0, 0))) (u : Value) : kI.R 3 (w1.setCell ⟨g, 0, none⟩ u) B (fun _ => True) sv1 l1 :=
  Kd.R_mono (Kd.R_set hR hb (by intro q hq; simp only [List.mem_cons] at hq; rcases hq with rfl | hq; decide; exact absurd hq (by simp [kI, Kd.int, Kd.scalar])) 0 u) (fun _ _ => trivial)
theorem nums_store {w1 : World} {B g : Nat} {sv sv1 : Value} {l1 : List Int} (hR : kI.R 3 w1 B (fun _ => True) sv1 l1) (hb : w1.heap[g]? = some (.cells #[sv] 67 (0, 0))) : Nums (w1.setCell ⟨g, 0, none⟩ sv1) B g sv1 l1 :=
  ⟨blk_set hb 0 sv1, nums_row_set hR hb sv1⟩
theorem Nums.grown {w w1 : World} {B g gr n cap : Nat} {l l1 : List Int} (h : Nums w B g (.slice (some ⟨gr, 0, none⟩) n cap) l) (hR : kI.R 3 w1 B (fun _ => True) (.slice (some ⟨gr, 0, none⟩) n cap) l1) (hG : w.grownBy w1 (some gr)) :
    Nums w1 B g (.slice (some ⟨gr, 0, none⟩) n cap) l1 := ⟨blk_grown h.blk hG h.ne, hR⟩
theorem sfoot_step {w w1 w2 : World} {g : Nat} {sv sv1 : Value} (hF : Fr (SFoot g sv) w w1) (hA : sv1.ownBlock = sv.ownBlock ∨ ∃ b, sv1.ownBlock = some b ∧ w.heap.size ≤ b) (hF2 : Fr (SFoot g sv1) w1 w2) : Fr (SFoot g sv) w w2 :=
  hF.trans hF2 (fun i hi hk => by
    rcases hk with rfl | hk
    · exact .inl rfl
    · rcases hA with e | ⟨b, e, hb⟩
      · exact .inr (e ▸ hk)
      · rw [e] at hk; injection hk with hk; omega)
theorem STurned.trans {w w1 w2 : World} {B g : Nat} {sv sv1 : Value} {l2 : List Int} (hF : Fr (SFoot g sv) w w1) (hA : sv1.ownBlock = sv.ownBlock ∨ ∃ b, sv1.ownBlock = some b ∧ w.heap.size ≤ b) (h2 : STurned w1 B g sv1 l2 w2) : STurned w B g sv l2 w2 := by
  obtain ⟨sv2, hN, hF2, hA2⟩ := h2
  refine ⟨sv2, hN, sfoot_step hF hA hF2, ?_⟩
  rcases hA2 with e | ⟨b, e, hb⟩
  · rw [e]; exact hA
  · exact .inr ⟨b, e, Nat.le_trans hF.size hb⟩

/-- A slice that is read, of whose block nothing is turned by calls on the set. -/
structure Away (w : World) (g : Nat) (sv : Value) (A : Option Addr) (n : Nat) (ys : List Int) : Prop where
  rd : kI.C w A n ys
  ne : ∀ ad, A = some ad → 0 < n → ad.block ≠ g ∧ sv.ownBlock ≠ some ad.block ∧ ad.block < w.heap.size
theorem Away.step {w w1 : World} {g : Nat} {sv sv1 : Value} {A : Option Addr} {n : Nat} {ys : List Int} (h : Away w g sv A n ys) (hF : Fr (SFoot g sv) w w1) (hA : sv1.ownBlock = sv.ownBlock ∨ ∃ b, sv1.ownBlock = some b ∧ w.heap.size ≤ b) : Away w1 g sv1 A n ys :=
  ⟨hF.C 0 h.rd (fun ad e hp hk => by
    have := h.ne ad e hp
    rcases hk with hk | hk
    · exact this.1 hk
    · exact this.2.1 hk), fun ad e hp => by
    have := h.ne ad e hp
    refine ⟨this.1, fun hk => ?_, Nat.lt_of_lt_of_le this.2.2 hF.size⟩
    rcases hA with e2 | ⟨b, e2, hb⟩
    · exact this.2.1 (e2 ▸ hk)
    · rw [e2] at hk; injection hk with hk; omega⟩

theorem foot_of {w W : World} {g : Nat} {sv sv1 : Value} (_hF : Fr (SFoot g sv) w W) (hO : sv1.ownBlock = sv.ownBlock ∨ ∃ b, sv1.ownBlock = some b ∧ w.heap.size ≤ b) {q : Nat} (hq : sv1.ownBlock = some q) (hlt : q < w.heap.size) : SFoot g sv q := by
  rcases hO with e | ⟨b, e, hb⟩
  · exact .inr (e ▸ hq)
  · rw [e] at hq; injection hq with hq; omega
def AddPost (w : World) (B g : Nat) (sv : Value) (l ys : List Int) (e : Ending) (w' : World) : Prop :=
  ((∀ y, y ∈ ys → isNum y = true) ∧ ∃ l', AddInv l ys l' ys.length ∧ e = .returned (.tuple #[.int .i64 ((l'.length : Int) - l.length), .int .i64 0]) ∧ STurned w B g sv l' w') ∨
  ((∃ y, y ∈ ys ∧ isNum y = false) ∧ e = .returned (.tuple #[.int .i64 0, .int .i64 1]) ∧ Drawn0 w w')

/-- The round of a set's Add that lays a number in. -/
structure AddW (w : World) (B g : Nat) (sv : Value) (l ys : List Int) (A : Option Addr) (i : Nat) (cnt : Int) (W : World) : Prop where
  ex : ∃ l1 sv1, AddInv l ys l1 i ∧ cnt = (l1.length : Int) - l.length ∧ Nums W B g sv1 l1 ∧ Fr (SFoot g sv) w W ∧ (sv1.ownBlock = sv.ownBlock ∨ ∃ b, sv1.ownBlock = some b ∧ w.heap.size ≤ b) ∧ Away W g sv1 A ys.length ys

set_option maxRecDepth 100000 in
set_option maxHeartbeats 1000000 in
theorem add_calls (w : World) (B g : Nat) (sv : Value) (l ys : List Int) (A : Option Addr) (c : Nat) (h : Nums w B g sv l) (hB : B ≤ w.heap.size) (hl : Rising l) (hn : ∀ x, x ∈ l → isNum x = true) (hA : Away w g sv A ys.length ys) :
    Calls Tryd.prog 21 #[.pointer (some ⟨g, 0, none⟩), .slice A ys.length c] w (AddPost w B g sv l ys) := by
  have hm := Kd.C_max hA.rd
  have hu := Tryd.underlying67
  go_enter Tryd.func21, Tryd.ntmps21
  go_wp2_with (fail)
  go_loop [16, 7] (fun a b => ∃ k : Nat, a = .int .i64 k ∧ k ≤ ys.length ∧ Aside0 (∀ j : Nat, j < k → isNum (rd ys j) = true)) (fun a b => ys.length - (intOf a).toNat)
  case atStart => exact ⟨0, rfl, Nat.zero_le _, ⟨fun j hj => by omega⟩⟩
  case round =>
    obtain ⟨k, rfl, hk, HK⟩ := hrel
    by_cases hlt : k < ys.length
    · obtain ⟨ad, rfl, hx⟩ := Kd.at_int hA.rd (k : Int) (by omega) (by omega)
      simp only [Int.toNat_natCast] at hx
      cases hb : isNum (rd ys (k : Int)) with
      | false =>
        have HB := Lib.hid hb
        clear hb
        go_wp2_with (go_at_call 43; refine (number_calls _ _).mono ?_; rintro e W1 ⟨rfl, rfl⟩; rw [HB.out])
        go_ret2
        exact .inr ⟨⟨_, mem_iff_rd.2 ⟨k, hlt, rfl⟩, HB.out⟩, rfl, Drawn0.refl _⟩
      | true =>
        have HB := Lib.hid hb
        clear hb
        go_wp2_with (go_at_call 43; refine (number_calls _ _).mono ?_; rintro e W1 ⟨rfl, rfl⟩; rw [HB.out])
        exact ⟨⟨k + 1, by go_num, by omega, ⟨fun j hj => by
          by_cases e : j = k
          · rw [e]; exact HB.out
          · exact HK.out j (by omega)⟩⟩, by simp [intOf]; omega⟩
    · have HN := Aside0.mk (show ∀ y, y ∈ ys → isNum y = true from fun y hy => by
        obtain ⟨j, hj, rfl⟩ := mem_iff_rd.1 hy
        exact HK.out j (by omega))
      have HNN := Aside0.mk hn
      have HL := Aside0.mk hl
      have HA := Aside0.mk hA
      have HH := Aside0.mk h
      clear hn hl hA h
      go_wp2_with (fail)
      go_loopw [26, 8, 10, 11] (fun a b _ _ W => ∃ (i : Nat) (cnt : Int), a = .int .i64 i ∧ b = .int .i64 cnt ∧ i ≤ ys.length ∧ 0 ≤ cnt ∧ cnt ≤ 1048576 ∧ Aside0 (AddW w B g sv l ys A i cnt W)) (fun a _ _ _ _ => ys.length - (intOf a).toNat)
      case atStart => exact ⟨0, 0, rfl, rfl, Nat.zero_le _, by omega, by omega, ⟨⟨l, sv, AddInv.start ys HL.out HNN.out, by omega, HH.out, Fr.refl _ _, .inl rfl, HA.out⟩⟩⟩
      case round =>
        obtain ⟨i, cnt, rfl, rfl, hi, hc0, hc1, HW⟩ := hrel
        by_cases hil : i < ys.length
        · obtain ⟨l1, sv1, hinv, hcnt, hN, hF, hO, hAw⟩ := HW.out.ex
          obtain ⟨ad, hAd, hx⟩ := Kd.at_int hAw.rd (i : Int) (by omega) (by omega)
          subst hAd
          simp only [Int.toNat_natCast] at hx
          have HI := Aside0.mk hinv
          have HC := Lib.hid hcnt
          have HT := Aside0.mk hN
          have HF := Aside0.mk hF
          have HO := Aside0.mk hO
          have HAw := Aside0.mk hAw
          have hlen := hinv.len
          clear hinv hcnt hN hF hO hAw HW
          by_cases hmem : rd ys (i : Int) ∈ l1
          · have HM := Lib.hid (decide_eq_true hmem)
            have HMM := Aside0.mk hmem
            clear hmem
            go_wp2_with (go_at_call 12; refine (has_calls _ B g _ l1 _ HT.out HI.out.rise (by omega)).mono ?_; rintro e W1 ⟨rfl, hd⟩; rw [HM.out]; have HD := Aside0.mk hd; clear hd)
            exact ⟨⟨i + 1, cnt, by go_num, rfl, by omega, hc0, hc1, ⟨⟨l1, sv1, HI.out.skip hil HMM.out, HC.out, HT.out.drawn HD.out, HF.out.drawn' HD.out, HO.out, HAw.out.step (Fr.drawn HD.out) (.inl rfl)⟩⟩⟩, by simp [intOf]; omega⟩
          · have HM := Lib.hid (decide_eq_false hmem)
            have HMM := Aside0.mk hmem
            clear hmem
            go_wp2_with (fail)
            refine (has_calls _ B g _ l1 _ HT.out HI.out.rise (by omega)).mono ?_
            rintro e W1 ⟨rfl, hd⟩
            rw [HM.out]
            have HT1 := Aside0.mk (HT.out.drawn hd)
            have HF1 := Aside0.mk (HF.out.drawn' hd)
            have HA1 := Aside0.mk (HAw.out.step (Fr.drawn hd) (.inl rfl))
            clear hd HT HF HAw
            go_wp2_with (fail)
            refine (place_calls _ B g _ l1 _ HT1.out HI.out.rise (by omega)).mono ?_
            rintro e W2 ⟨kk, rfl, hk, hd⟩
            obtain ⟨k, rfl⟩ : ∃ k : Nat, kk = (k : Int) := ⟨kk.toNat, by have := hk.1; omega⟩
            have hkl : k ≤ l1.length := by have := hk.2.1; omega
            have HK2 := Aside0.mk hk
            have HT2 := Aside0.mk (HT1.out.drawn hd)
            have HF2 := Aside0.mk (HF1.out.drawn' hd)
            have HA2 := Aside0.mk (HA1.out.step (Fr.drawn hd) (.inl rfl))
            have hc2 := HT2.out.cell
            clear hd hk HT1 HF1 HA1
            go_wp2_with (at_builtin; refine app_int B rfl _ _ rfl sv1 l1 0 rfl rfl HT2.out.row (Nat.le_trans hB HF2.out.size) (by omega) ?_; intro v1 W3 h1 h2 h3; obtain ⟨gr, cap, rfl, hgB, hgw, _⟩ := Kd.R_form h1 (by simp); have hb3 := blk_grown HT2.out.blk h2 HT2.out.ne; have hc3 := (blk_cell hb3 0).trans rfl; have hf3 := blk_frozen hb3 0; have HR3 := Aside0.mk h1; have HB3 := Aside0.mk hb3; have HG3 := Aside0.mk h2; have HO3 := Aside0.mk h3; clear h1 h2 h3 hb3)
            have hcap : l1.length + 1 ≤ cap := by have := (Kd.R_reads' HR3.out).2.1; simpa using this
            have hlen3 : (l1 ++ [0]).length = l1.length + 1 := by simp
            have HR3 := Aside0.mk (show kI.R 3 W3 B (fun _ => True) (.slice (some ⟨gr, 0, none⟩) (l1.length + 1) cap) (l1 ++ [0]) by rw [← hlen3]; exact HR3.out)
            have HT4 := Aside0.mk (nums_store HR3.out HB3.out)
            have HGR := Aside0.mk (show ∀ q, some gr = some q → q < W2.heap.size → SFoot g sv1 q from fun q hq hlt => by
              injection hq with hq; subst hq
              rcases HO3.out with e | ⟨b, e, hb⟩
              · exact .inr (e.symm.trans rfl)
              · have e' : gr = b := Option.some.inj e
                omega)
            have HO4 := Aside0.mk (show (Value.slice (some ⟨gr, 0, none⟩) (l1.length + 1) cap).ownBlock = sv.ownBlock ∨ ∃ b, (Value.slice (some ⟨gr, 0, none⟩) (l1.length + 1) cap).ownBlock = some b ∧ w.heap.size ≤ b from by
              rcases HO3.out with e | ⟨b, e, hb⟩
              · rcases HO.out with e2 | ⟨b, e2, hb⟩
                · exact .inl (e.trans e2)
                · exact .inr ⟨b, e.trans e2, hb⟩
              · exact .inr ⟨b, e, Nat.le_trans HF2.out.size hb⟩)
            have HF4 := Aside0.mk (((Fr.refl (SFoot g sv1) W2).grown HG3.out (fun q hq _ => .inr hq)).set (.slice (some ⟨gr, 0, none⟩) (l1.length + 1) cap) (g := g) (o := 0) (fun _ => .inl rfl))
            clear hlen3
            have HM5 := Lib.hid (show l1.length - k = l1.length + 1 - (k + 1) by omega)
            have hk1 : k + 1 ≤ l1.length + 1 := by omega
            have hk2 : k ≤ cap := by omega
            have hk3 : k + 1 ≤ cap := by omega
            have hk4 : k ≤ l1.length + 1 := by omega
            have hs1 : IntKind.i64.wrap ((k : Int) + 1) = (k : Int) + 1 := IntWalk.i64_in _ (by omega)
            have hs2 : (0 : Int) ≤ (k : Int) + 1 := by omega
            have hs3 : (k : Int) + 1 ≤ (l1.length : Int) + 1 := by omega
            have hs5 : (k : Int) ≤ (l1.length : Int) + 1 := by omega
            have hs4 : ((k : Int) + 1).toNat = k + 1 := by omega
            go_region_law (go_must (refine step_copy_up (g := gr) (n := l1.length + 1) (cap := cap) (k := k) rfl _ _ 22 rfl Tryd.underlying22 int_size (by first | rfl | simp [Act.eval]) (by first | rfl | simp [Act.eval]) rfl rfl HM5.out rfl rfl rfl (Kd.R_drew HT4.out.row) hk1 ?_); intro W5 h1 h2; have HR5 := Aside0.mk h1; have HG5 := Aside0.mk h2; clear h1 h2)
            all_goals
              have HT5 := Aside0.mk ((HT4.out.drewN 1).grown HR5.out HG5.out)
              have hc5 := HT5.out.cell
              obtain ⟨hg5, hf5⟩ := Kd.R_celln 0 HT5.out.row (k : Int) (by omega) (by omega)
              simp only [Int.toNat_natCast] at hg5 hf5
              have HP := Aside0.mk (Kd.R_putg (Kd.R_mono (ok' := fun _ => True) HT5.out.row (fun _ _ => trivial)) (k : Int) (rd ys (i : Int)))
              clear hs1 hs2 hs3 hs4 hs5
              go_wp2_with (fail)
            all_goals
              have hinv := HI.out.ins hil HMM.out (HN.out _ (mem_iff_rd.2 ⟨i, hil, rfl⟩)) HK2.out
              have hl' := hinv.len
              rw [insAt_len _ _ _ hkl] at hl'
              have F2 := (((HF4.out.drewN 1).grown HG5.out HGR.out).grown HP.out.2 HGR.out)
              have hcc := HC.out
              exact ⟨⟨i + 1, cnt + 1, by go_num, rfl, by omega, by omega, by omega, ⟨⟨_, .slice (some ⟨gr, 0, none⟩) (l1.length + 1) cap, hinv, by rw [insAt_len _ _ _ hkl]; omega,
                HT5.out.grown (by have := HP.out.1; rw [Int.toNat_natCast, insAt_eq l1 k _ hkl] at this; exact this) HP.out.2, sfoot_step HF2.out HO.out F2, HO4.out, HA2.out.step F2 HO3.out⟩⟩⟩, by simp [intOf]; omega⟩
        · obtain ⟨l1, sv1, hinv, hcnt, hN, hF, hO, hAw⟩ := HW.out.ex
          have HX := Aside0.mk (show AddInv l ys l1 ys.length by rw [show ys.length = i by omega]; exact hinv)
          have HC := Lib.hid hcnt
          have HS := Aside0.mk (show STurned w B g sv l1 wr from ⟨sv1, hN, hF, hO⟩)
          clear hinv hcnt hN hF hO hAw HW
          go_wp2_with (fail)
          go_ret2
          exact .inl ⟨HN.out, l1, HX.out, by rw [← HC.out]; rfl, HS.out⟩

def NewPost (w : World) (B : Nat) (ys : List Int) (e : Ending) (w' : World) : Prop :=
  ((∀ y, y ∈ ys → isNum y = true) ∧ ∃ l' sv, AddInv [] ys l' ys.length ∧ e = .returned (.tuple #[.pointer (some ⟨w.heap.size, 0, none⟩), .int .i64 0]) ∧ Nums w' B w.heap.size sv l' ∧ (∀ k, sv.ownBlock = some k → w.heap.size ≤ k) ∧ Fr (fun _ => False) w w') ∨
  ((∃ y, y ∈ ys ∧ isNum y = false) ∧ e = .returned (.tuple #[.pointer none, .int .i64 1]) ∧ Fr (fun _ => False) w w')
set_option maxRecDepth 100000 in
theorem newSet_calls (w : World) (B : Nat) (ys : List Int) (A : Option Addr) (c : Nat) (hB : B ≤ w.heap.size) (hA : kI.C w A ys.length ys) (hlt : ∀ ad, A = some ad → 0 < ys.length → ad.block < w.heap.size) :
    Calls Tryd.prog 6 #[.slice A ys.length c] w (NewPost w B ys) := by
  have hu := Tryd.underlying67
  have HA := Aside0.mk hA
  have HN0 := Aside0.mk (show Nums (w.alloc (.cells #[.slice none 0 0] 67)) B w.heap.size (.slice none 0 0) [] from ⟨blk_new _ _, Kd.R_nil _ _ _ _ _⟩)
  clear hA
  go_enter Tryd.func6, Tryd.ntmps6
  go_wp2_with (fail)
  refine (add_calls _ B w.heap.size (.slice none 0 0) [] ys A c HN0.out (by simp; omega) (by intro i j h0 h1 h2; simp at h2; omega) (by simp) ⟨Kd.C_alloc HA.out _, fun ad e hp => ⟨Nat.ne_of_lt (hlt ad e hp), by simp [Value.ownBlock], by have := hlt ad e hp; simp; omega⟩⟩).mono ?_
  rintro e W1 (⟨hn, l', hinv, rfl, sv, hN, hF, hO⟩ | ⟨hbad, rfl, hd⟩)
  · have HF := Aside0.mk (show Fr (fun _ => False) w W1 from ((Fr.refl (fun _ => False) w).alloc _).trans hF (fun i hi hk => by
      rcases hk with rfl | hk
      · exact absurd hi (Nat.lt_irrefl _)
      · simp [Value.ownBlock] at hk))
    have HS := Aside0.mk (show ∀ k, sv.ownBlock = some k → w.heap.size ≤ k from fun k hk => by
      rcases hO with e | ⟨b, e, hb⟩
      · rw [e] at hk; simp [Value.ownBlock] at hk
      · rw [e] at hk; injection hk with hk; simp at hb; omega)
    have HN := Aside0.mk hn
    have HI := Aside0.mk hinv
    have HT := Aside0.mk hN
    clear hn hinv hN hF hO
    go_wp2_with (fail)
    go_ret2
    exact .inl ⟨HN.out, l', sv, HI.out, rfl, HT.out, HS.out, HF.out⟩
  · have HF := Aside0.mk (show Fr (fun _ => False) w W1 from ((Fr.refl (fun _ => False) w).alloc _).drawn' hd)
    have HB := Aside0.mk hbad
    clear hbad hd
    go_wp2_with (fail)
    go_ret2
    exact .inr ⟨HB.out, rfl, HF.out⟩
end Go.Proofs.YtpjhflimaiaokaaDoor.SetW
