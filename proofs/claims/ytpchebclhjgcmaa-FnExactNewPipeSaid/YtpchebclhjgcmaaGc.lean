/- Filters that are valid. No condition. -/
import Derived.Test.YtpchebclhjgcmaaGb
namespace Go.Proofs.Ytpchebclhjgcmaa
open Go.RowKit Go.Fl
/-- Is a number finite: a - a == 0. -/
def finB (a : Nat) : Bool := ordC .f32 (cop .sub .f32 (cv .f32 a) (cv .f32 a)) (cv .f32 0) == some .eq
theorem c_isFinite (a : Nat) (v : Bool) (w : World) (h : finB a = v) : Calls Try.prog 55 #[.float .f32 a] w fun e w' => e = .returned (.bool v) ∧ ∃ n, w' = w.drewN n := by
  have HV := Lib.hid h
  go_enter Try.func55, Try.ntmps55
  go_wp2
  go_ret
  exact ⟨ret_boolx (by rw [← HV.out]; first | rfl | (unfold finB; rw [cv_fval]) | (unfold finB; simp [cv_fval])), _, rfl⟩
theorem c_l01Finite (a : Nat) (v : Bool) (w : World) (h : finB a = v) : Calls Try.prog 94 #[.float .f32 a] w fun e w' => e = .returned (.bool v) ∧ ∃ n, w' = w.drewN n := by
  have HV := Lib.hid h
  go_enter Try.func94, Try.ntmps94
  go_wp2
  go_ret
  exact ⟨ret_boolx (by rw [← HV.out]; first | rfl | (unfold finB; rw [cv_fval]) | (unfold finB; simp [cv_fval])), _, rfl⟩
def okA (xs : List Nat) (n : Nat) (many : Int) : Bool := (List.range n).all fun i => finB (nth xs i) && (decide ((i : Int) < many) || sameB (nth xs i) 0)
theorem okA_no (xs : List Nat) (n : Nat) (many : Int) (k : Nat) (hk : k < n) (h : (finB (nth xs k) && (decide ((k : Int) < many) || sameB (nth xs k) 0)) = false) : okA xs n many = false := by
  unfold okA; rw [List.all_eq_false]; exact ⟨k, by simpa using hk, by rw [h]; exact Bool.false_ne_true⟩
theorem okA_yes (xs : List Nat) (n : Nat) (many : Int) (h : ∀ j, j < n → (finB (nth xs j) && (decide ((j : Int) < many) || sameB (nth xs j) 0)) = true) : okA xs n many = true := by
  unfold okA; rw [List.all_eq_true]; intro k hk; exact h k (by simpa using hk)
theorem bitsI_zero : bitsI 0 = 0 := by
  unfold bitsI
  rw [if_neg (by rw [nanB_f32]; decide)]; rfl
theorem ne_bits (a : Nat) : (bitsI a != 0) = !sameB a 0 := by
  rw [← bits_same, bitsI_zero]; rfl
set_option maxHeartbeats 2000000 in
theorem c_isUsed (A : Option Addr) (c n : Nat) (xs : List Nat) (many : Int) (v : Bool) (w : World) (hs : Sl w A xs) (hn : xs.length = n) (hl : (n : Int) ≤ 4294967296) (h0 : 0 ≤ many) (h1 : many ≤ 4294967296) (hv : okA xs n many = v) :
    Calls Try.prog 104 #[.slice A n c, .int .i64 many] w fun e w' => e = .returned (.bool v) ∧ ∃ n, w' = w.drewN n := by
  have HV := Lib.hid hv; clear hv
  have HL := Lib.hid hl; clear hl
  have HS := Lib.hid hs; clear hs
  have HN := Lib.hid hn; clear hn
  go_enter Try.func104, Try.ntmps104
  go_wp2
  go_loopw [9] (fun i wr => ∃ k : Nat, k ≤ n ∧ i = .int .i64 k ∧ Hid (∃ n, wr = w.drewN n) ∧ Hid (∀ j, j < k → (finB (nth xs j) && (decide ((j : Int) < many) || sameB (nth xs j) 0)) = true)) (fun i _ => n - (intOf i).toNat)
  case atStart => exact ⟨0, by omega, rfl, ⟨0, rfl⟩, fun j hj => by omega⟩
  case round =>
    obtain ⟨k, hk, rfl, HW, HK⟩ := hrel
    by_cases hlt : k < n
    · obtain ⟨ad, rfl, hbl, c1⟩ := (HS.out.below (below_of_drewN _ HW.out)).at_ (k := k) (by rw [HN.out]; exact hlt)
      have hi : (0 : Int) ≤ k := by omega
      have hi2 : (k : Int) < n := by omega
      have hi3 : (n : Int) ≤ 4294967296 := HL.out
      have HQ := Lib.hid (okA_no xs n many k hlt)
      cases hf : finB (nth xs k)
      · rw [hf] at HQ
        have HF := Lib.hid hf; clear hf
        go_wp2_with (go_at_call 55; refine (c_isFinite _ _ _ HF.out).mono ?_; rintro e w' ⟨rfl, nq, rfl⟩)
        go_ret
        exact ⟨ret_boolx ((HQ.out rfl).symm.trans HV.out), by obtain ⟨m, rfl⟩ := HW.out; exact ⟨_, World.drewN_drewN ..⟩⟩
      · rw [hf] at HQ
        have HF := Lib.hid hf; clear hf
        by_cases hm : (k : Int) < many
        · have hge : decide (many ≤ (k : Int)) = false := by simp; omega
          have hge2 : ¬ (many ≤ (k : Int)) := by omega
          go_wp2_with (go_at_call 55; refine (c_isFinite _ _ _ HF.out).mono ?_; rintro e w' ⟨rfl, nq, rfl⟩)
          go_roundw
          case rel => exact ⟨k + 1, by omega, by go_num, by obtain ⟨m, rfl⟩ := HW.out; exact ⟨_, World.drewN_drewN ..⟩, fun j hj => by
            by_cases e : j = k
            · subst e; rw [HF.out, decide_eq_true hm]; rfl
            · exact HK.out j (by omega)⟩
          case measure => simp [intOf]; omega
        · have hge : many ≤ (k : Int) := by omega
          cases hz : sameB (nth xs k) 0
          · have hb : (bitsI (nth xs k) != 0) = true := by rw [ne_bits, hz]; rfl
            rw [hz, decide_eq_false hm] at HQ
            go_wp2_with (first | (go_at_call 55; refine (c_isFinite _ _ _ HF.out).mono ?_; rintro e w' ⟨rfl, nq, rfl⟩) | (go_at_call 89; refine (c_bitsOf _ _).mono ?_; rintro e w' ⟨rfl, rfl⟩))
            go_ret
            exact ⟨ret_boolx ((HQ.out rfl).symm.trans HV.out), by obtain ⟨m, rfl⟩ := HW.out; exact ⟨_, World.drewN_drewN ..⟩⟩
          · have hb : (bitsI (nth xs k) != 0) = false := by rw [ne_bits, hz]; rfl
            have HZ := Lib.hid hz; clear hz
            go_wp2_with (first | (go_at_call 55; refine (c_isFinite _ _ _ HF.out).mono ?_; rintro e w' ⟨rfl, nq, rfl⟩) | (go_at_call 89; refine (c_bitsOf _ _).mono ?_; rintro e w' ⟨rfl, rfl⟩))
            go_roundw
            case rel => exact ⟨k + 1, by omega, by go_num, by obtain ⟨m, rfl⟩ := HW.out; exact ⟨_, World.drewN_drewN ..⟩, fun j hj => by
              by_cases e : j = k
              · subst e; rw [HF.out, HZ.out]; simp
              · exact HK.out j (by omega)⟩
            case measure => simp [intOf]; omega
    · have e : k = n := by omega
      subst e
      have HQ := Lib.hid ((okA_yes xs k many HK.out).symm.trans HV.out)
      clear HK
      go_wp2
      go_ret
      exact ⟨ret_boolx HQ.out, HW.out⟩
/-- How many numbers a kind uses. -/
def usC (k : Int) : Int := if k = 1 ∨ k = 2 then 2 else if k = 3 ∨ k = 5 then 1 else 3
def usS (k : Int) : Int := if k = 1 ∨ k = 2 then 1 else 2
theorem usC_bd (k : Int) : 1 ≤ usC k ∧ usC k ≤ 3 := by unfold usC; split <;> (try split) <;> omega
theorem usS_bd (k : Int) : 1 ≤ usS k ∧ usS k ≤ 2 := by unfold usS; split <;> omega
def okF (k : Int) (cs ss : List Nat) : Bool := inB k 1 5 && (okA cs 3 (usC k) && okA ss 2 (usS k))
theorem okF_k {k : Int} {cs ss : List Nat} (h : inB k 1 5 = false) : false = okF k cs ss := by unfold okF; rw [h]; rfl
theorem okF_c {k : Int} {cs ss : List Nat} (h : okA cs 3 (usC k) = false) : false = okF k cs ss := by unfold okF; rw [h]; simp
theorem okF_s {k : Int} {cs ss : List Nat} (h1 : inB k 1 5 = true) (h : okA cs 3 (usC k) = true) : okA ss 2 (usS k) = okF k cs ss := by unfold okF; rw [h, h1]; simp
theorem five (k : Int) (h : inB k 1 5 = true) : k = 1 ∨ k = 2 ∨ k = 3 ∨ k = 4 ∨ k = 5 := by
  obtain ⟨a, b⟩ := inB_true' h
  omega
theorem c_uses (k : Int) (w : World) (h : inB k 1 5 = true) : Calls Try.prog 103 #[.int .i64 k] w fun e w' => e = .returned (.tuple #[.int .i64 (usC k), .int .i64 (usS k)]) ∧ w' = w := by
  rcases five k h with rfl | rfl | rfl | rfl | rfl
  all_goals
    clear h
    go_enter Try.func103, Try.ntmps103
    go_wp2
    go_ret2
    exact ⟨rfl, rfl⟩
theorem c_uses_no (k : Int) (w : World) (h : inB k 1 5 = false) : Calls Try.prog 103 #[.int .i64 k] w fun e w' => e = .returned (.tuple #[.int .i64 0, .int .i64 0]) ∧ w' = w := by
  have hh : k ≠ 1 ∧ k ≠ 2 ∧ k ≠ 3 ∧ k ≠ 4 ∧ k ≠ 5 := by simp [inB] at h; omega
  obtain ⟨h1, h2, h3, h4, h5⟩ := hh
  have e1 : (k == 1) = false := by simpa using h1
  have e2 : (k == 2) = false := by simpa using h2
  have e3 : (k == 3) = false := by simpa using h3
  have e4 : (k == 4) = false := by simpa using h4
  have e5 : (k == 5) = false := by simpa using h5
  clear h h1 h2 h3 h4 h5
  go_enter Try.func103, Try.ntmps103
  go_wp2
  go_ret2
  exact ⟨rfl, rfl⟩
theorem c_l02Uses (k : Int) (w : World) (h : inB k 1 5 = true) : Calls Try.prog 102 #[.int .i64 k] w fun e w' => e = .returned (.tuple #[.int .i64 (usC k), .int .i64 (usS k)]) ∧ w' = w := by
  rcases five k h with rfl | rfl | rfl | rfl | rfl
  all_goals
    clear h
    go_enter Try.func102, Try.ntmps102
    go_wp2
    go_ret2
    exact ⟨rfl, rfl⟩
set_option maxRecDepth 20000 in
set_option maxHeartbeats 2000000 in
theorem c_iValidFilter (k : Int) (c0 c1 c2 s0 s1 : Nat) (w : World) :
    Calls Try.prog 96 #[.agg (filC k c0 c1 c2 s0 s1).toArray] w fun e w' => e = .returned (.bool (okF k [c0, c1, c2] [s0, s1])) ∧ Below w.heap.size w w' := by
  obtain ⟨wa, hwa⟩ : ∃ wa, wa = w.alloc (.cells (filC k c0 c1 c2 s0 s1).toArray 35) := ⟨_, rfl⟩
  have q1 : Row wa w.heap.size (filC k c0 c1 c2 s0 s1).toArray 35 := by subst hwa; exact Row.new _ _ _ _ rfl
  have hb : Below w.heap.size w wa := by subst hwa; exact Go.Joins.below_alloc1 _ _
  have HC := Lib.hid (filC_C q1); have HS := Lib.hid (filC_S q1)
  have p0 := q1.cell 0 (.int .i64 k) rfl
  unfold filC at *
  clear q1
  subst hwa
  have HB := Lib.hid hb; clear hb
  cases hk : inB k 1 5
  · have HR := Lib.hid (okF_k (cs := [c0, c1, c2]) (ss := [s0, s1]) hk)
    have HK := Lib.hid hk; clear hk
    go_enter Try.func96, Try.ntmps96
    go_wp2_with (go_at_call 103; refine (c_uses_no _ _ HK.out).mono ?_; rintro e w' ⟨rfl, rfl⟩)
    go_ret
    exact ⟨ret_boolx HR.out, HB.out⟩
  · have HK := Lib.hid hk
    obtain ⟨u1, u2⟩ := usC_bd k
    obtain ⟨v1, v2⟩ := usS_bd k
    have HU := Lib.hid (fun W => c_uses k W hk)
    cases hc : okA [c0, c1, c2] 3 (usC k)
    · have HR := Lib.hid (okF_c (k := k) (ss := [s0, s1]) hc)
      have HCC := Lib.hid hc; clear hc hk
      generalize usC k = m at *
      generalize usS k = m2 at *
      have up : (0 : Int) < m := by omega
      go_enter Try.func96, Try.ntmps96
      go_wp2_with (first
        | (go_at_call 103; refine (HU.out _).mono ?_; rintro e w' ⟨rfl, rfl⟩)
        | (go_at_call 104; refine (c_isUsed _ _ 3 _ _ _ _ HC.out rfl (by decide) (by omega) (by omega) HCC.out).mono ?_; rintro e w' ⟨rfl, nq, rfl⟩))
      go_ret
      exact ⟨ret_boolx HR.out, below_drewN HB.out _⟩
    · cases hs : okA [s0, s1] 2 (usS k)
      all_goals
        have HR := Lib.hid (okF_s (ss := [s0, s1]) hk hc)
        rw [hs] at HR
        have HCC := Lib.hid hc; have HSS := Lib.hid hs; clear hc hk hs
        generalize usC k = m at *
        generalize usS k = m2 at *
        have up : (0 : Int) < m := by omega
        go_enter Try.func96, Try.ntmps96
        go_wp2_with (first
          | (go_at_call 103; refine (HU.out _).mono ?_; rintro e w' ⟨rfl, rfl⟩)
          | (have _ := m1; go_at_call 104; refine (c_isUsed _ _ 2 _ _ _ _ (Sl.drewN HS.out _) rfl (by decide) (by omega) (by omega) HSS.out).mono ?_; rintro e w' ⟨rfl, nq2, rfl⟩)
          | (go_at_call 104; refine (c_isUsed _ _ 3 _ _ _ _ HC.out rfl (by decide) (by omega) (by omega) HCC.out).mono ?_; rintro e w' ⟨rfl, nq, rfl⟩; have m1 := True.intro))
        go_ret
        exact ⟨ret_boolx HR.out, below_drewN HB.out _⟩
end Go.Proofs.Ytpchebclhjgcmaa
