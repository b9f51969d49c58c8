/- The text of a sample, in the program and in the reference. No condition. -/
import Derived.Test.YtdhpaglcggeknaaGreatDoorPc
import Derived.Test.YtdhpaglcggeknaaGreatDoorZs
import Derived.Test.YtdhpaglcggeknaaGreatDoorSm
namespace Go.Fl
open Go.RowKit
theorem repeat48 : ∀ c, Lib.repeatL [48] c = List.replicate c 48
  | 0 => rfl
  | c + 1 => by show [48] ++ Lib.repeatL [48] c = _; rw [repeat48 c]; rfl
theorem pad8 (m n : Nat) (hm : m ≤ 8) (hn : n < 16 ^ m) : Lib.repeatL [48] (8 - m) ++ hexL m n = hexL 8 n := by
  rw [repeat48]
  have := hexL_pad m (8 - m) n hn
  rw [show 8 - m + m = 8 from by omega] at this
  exact this.symm
def dig16 : ByteArray := { data := #[48, 49, 50, 51, 52, 53, 54, 55, 56, 57, 97, 98, 99, 100, 101, 102] }
theorem dig16_at (d : Nat) (hd : d < 16) (h : d < dig16.size) : dig16[d] = hexC d := by
  have key : ∀ d : Fin 16, dig16.data[d.val]! = hexC d.val := by decide
  have e := key ⟨d, hd⟩
  rw [← e]
  show dig16.data[d] = dig16.data[d]!
  rw [getElem!_pos dig16.data d h]
theorem run_make_bytes8 {P : Program} (t e : TypeId) (ht : P.underlying t = some (.slice e)) (hinfo : (P.info? e).map (fun i => (i.zero, i.size, i.bytes)) = some (some (.int .u8 0), 1, 1)) (w : World) :
    (Instr.makeSlice t (.int .i64 8) (.int .i64 8)).run P w = .ok (.slice (some ⟨w.heap.size, 0, none⟩) 8 8) (w.alloc (.cells (hexRow 8 0 0).toArray e)) := by
  obtain ⟨i, hi, hzz⟩ := Option.map_eq_some_iff.1 hinfo
  simp only [Prod.mk.injEq] at hzz
  obtain ⟨hz, hs, hb⟩ := hzz
  have hr := run_make (P := P) w t e i _ ht hi hz .i64 .i64 8 8 (by omega) (Int.le_refl _) (by rw [hb]; decide) (by omega)
  have e1 : madeCells #[Value.int .u8 0] 8 = (hexRow 8 0 0).toArray := by
    unfold madeCells
    apply Array.ext
    · simp [hexRow, hexL]
    · intro i h1 h2
      have h8 : i < 8 := by simpa using h1
      rcases (by omega : i = 0 ∨ i = 1 ∨ i = 2 ∨ i = 3 ∨ i = 4 ∨ i = 5 ∨ i = 6 ∨ i = 7) with rfl | rfl | rfl | rfl | rfl | rfl | rfl | rfl <;> simp [hexRow, hexL, Nat.mod_one]
  simp only [Value.cells, hs] at hr
  exact hr.trans (by rw [← e1]; rfl)
end Go.Fl
namespace Go.Proofs.YtdhpaglcggeknaaGreatDoor
open Go.RowKit Go.Fl
/-- The library's table of bits is there. -/
def Tz (w : World) : Prop := w.cell? ⟨8, 15, none⟩ = some (.int .u8 4) ∧ 8 < w.heap.size
theorem Tz.below {w w' : World} (h : Tz w) {B : Nat} (hb : Below B w w') (hB : 8 < B) : Tz w' :=
  ⟨by rw [hb.cell (p := ⟨8, 15, none⟩) hB]; exact h.1, Nat.lt_of_lt_of_le h.2 hb.size⟩
theorem Tz.on {w w' : World} (h : Tz w) (hb : Below w.heap.size w w') : Tz w' := h.below hb h.2
theorem c_kFormatUint (n : Nat) (hn : n < 4294967296) (w : World) (hT : Tz w) :
    Calls Tryz.prog 75 #[.int .u64 n, .int .i64 16] w fun e w' => ∃ m, (1 ≤ m ∧ m ≤ 8 ∧ n < 16 ^ m) ∧ e = .returned (.string (bs (hexL m n))) ∧ Below w.heap.size w w' := by
  have HN := Lib.hid hn; have HT := Lib.hid hT; clear hn hT
  go_enter Tryz.func75, Tryz.ntmps75
  go_wp2_with (go_at_call 97; refine (c_formatBits _ HN.out _ HT.out.1 HT.out.2).mono ?_; rintro e w1 ⟨m, hm, rfl, b⟩; have HM := Lib.hid hm; clear hm)
  go_ret
  exact ⟨m, HM.out, rfl, b⟩
theorem c_cFormatUint (n : Nat) (hn : n < 4294967296) (w : World) (hT : Tz w) :
    Calls Tryz.prog 55 #[.int .u64 n, .int .i64 16] w fun e w' => ∃ m, (1 ≤ m ∧ m ≤ 8 ∧ n < 16 ^ m) ∧ e = .returned (.string (bs (hexL m n))) ∧ Below w.heap.size w w' := by
  have HN := Lib.hid hn; have HT := Lib.hid hT; clear hn hT
  go_enter Tryz.func55, Tryz.ntmps55
  go_wp2_with (go_at_call 75; refine (c_kFormatUint _ HN.out _ HT.out).mono ?_; rintro e w1 ⟨m, hm, rfl, b⟩; have HM := Lib.hid hm; clear hm)
  go_ret
  exact ⟨m, HM.out, rfl, b⟩
set_option maxHeartbeats 1000000 in
theorem c_bitsText (x : Nat) (hx : x < 4294967296) (w : World) (hT : Tz w) :
    Calls Tryz.prog 33 #[.float .f32 x] w fun e w' => e = .returned (.string (bs (hexT8 x))) ∧ Below w.heap.size w w' := by
  have HN := Lib.hid (bitsN_lt hx); have HT := Lib.hid hT; clear hx hT
  have HI := Lib.hid (bitsN_int x)
  rw [show hexT8 x = hexL 8 (bitsN x) from rfl]
  generalize bitsN x = n at *
  go_enter Tryz.func33, Tryz.ntmps33
  go_wp2_with fail
  refine (c_bitsOf _ _).mono ?_; rintro e w1 ⟨rfl, hww⟩; obtain rfl := hww.symm
  rw [HI.out]
  clear HI
  have hn0 : (0 : Int) ≤ n := by omega
  have hn1 : (n : Int) < 4294967296 := by have := HN.out; omega
  have hn2 : (n : Int) < 18446744073709551616 := by omega
  go_wp2_with fail
  refine (c_cFormatUint _ HN.out _ HT.out).mono ?_; rintro e w1 ⟨m, hm, rfl, b⟩
  obtain ⟨h1, h2, h3⟩ := hm
  have H3 := Lib.hid h3
  have hsz : (bs (hexL m n)).size = m := by rw [bs_size, hexL_length]
  have hm0 : (0 : Int) ≤ m := by omega
  have hm1 : (m : Int) ≤ 8 := by omega
  have hb := Lib.hid b; clear b h3
  go_wp2_with fail
  rw [show (8 : Int) - (m : Int) = ((8 - m : Nat) : Int) from by omega]
  refine (Tryz.strings_Repeat ⟨#[48]⟩ (8 - m) _ (by omega) (by show 1 * (8 - m) ≤ _; omega)).mono ?_; rintro e w2 ⟨rfl, b⟩
  replace hb := Lib.hid (seq_below hb.out b); clear b
  go_wp2_with (refine wpList_str_add rfl _ _ _ _ rfl (Lib.repeatL [48] (8 - m)) (hexL m n) rfl rfl (by rw [repeat48, hexL_length]; simp; omega) ?_; rw [pad8 m n h2 H3.out])
  go_ret
  exact ⟨rfl, hb.out⟩
theorem c_l01Bits (a : Nat) (w : World) : Calls Tryz.prog 27 #[.float .f32 a] w fun e w' => e = .returned (.int .u32 (bitsN a)) ∧ w' = w := by
  cases hn : nanB .f32 a
  · have h1 := ne_self a hn
    have e : bitsN a = a := by unfold bitsN; rw [if_neg (by rw [hn]; exact Bool.false_ne_true)]
    rw [e]; clear e hn
    go_enter Tryz.func27, Tryz.ntmps27
    go_wp2
    all_goals (go_ret; exact ⟨rfl, rfl⟩)
  · have h1 := ne_nan a hn
    have e : bitsN a = 2143289344 := by unfold bitsN; rw [if_pos hn]
    rw [e]; clear e hn
    go_enter Tryz.func27, Tryz.ntmps27
    go_wp2
    all_goals (go_ret; exact ⟨rfl, rfl⟩)
end Go.Proofs.YtdhpaglcggeknaaGreatDoor
