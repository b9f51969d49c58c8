/- The library's reader of numbers of base 16 and of 32 bits (in the way of the shelf's text for base 10). The readers of samples, in the program and in the reference. The reference's reader of a sample. Texts cut at a byte: plain; the library's Split at one byte; the reference's. Texts cut at a byte, in the reference. Samples read from texts: the program's list, the reference's block; ReadBlock, both. Small numbers in decimal, as the reference reads them. A filter's text: what reads it, plain; ParseInt. No condition. -/
import Derived.Test.YtdhpaglcggeknaaGreatDoorPe
import Derived.Lib.ConvBytes
import Derived.Lib.Strings
import Derived.Lib.SmallJoins
import Derived.Laws.Strings3
import Derived.Laws.Closers25
import Derived.Laws.Closers25b
import Derived.Lib.Split
import Derived.Lib.IndexBytes
import Derived.Lib.CountLaws
import Derived.Lib.SplitLaws
import Derived.Test.YtdhpaglcggeknaaGreatDoorTf
import Derived.Test.YtdhpaglcggeknaaGreatDoorPf
import Derived.Test.YtdhpaglcggeknaaGreatDoorPg
namespace Go.Fl
open Go.RowKit
theorem bits_or32 (c : UInt8) : bits .or .u8 (c.toNat : Int) 32 = ((c ||| 32).toNat : Int) := by
  have key : ∀ d : Fin 256, bits .or .u8 (d.val : Int) 32 = ((UInt8.ofNat d.val ||| 32).toNat : Int) := of_decide_eq_true (by kernel_rfl)
  have := key ⟨c.toNat, c.toNat_lt⟩
  simpa using this
end Go.Fl
namespace Go.Proofs.YtdhpaglcggeknaaGreatDoor
open Go.RowKit Go.Fl
theorem c_lower (c : UInt8) (w : World) : Calls Tryz.prog 69 #[.int .u8 (c.toNat : Int)] w fun e w' => e = .returned (.int .u8 ((c ||| 32).toNat : Int)) ∧ w' = w := by
  have HB := Lib.hid (bits_or32 c)
  go_enter Tryz.func69, Tryz.ntmps69
  go_wp2
  go_ret
  exact ⟨by rw [← HB.out]; rfl, rfl⟩
/-- What the reader of numbers hands back. -/
def PuR (s : List UInt8) (e : Ending) : Prop := (∃ n, s ≠ [] ∧ puL 0 s = some n ∧ e = .returned (.tuple #[.int .u64 (n : Nat), .nilIface])) ∨ ((s = [] ∨ puL 0 s = none) ∧ ∃ (v k : Int), (k = 1 ∨ k = 2) ∧ e = .returned (.tuple #[.int .u64 v, .iface 102 (.int .i64 k)]))
theorem puL_cons (acc : Nat) (c : UInt8) (r : List UInt8) : puL acc (c :: r) = match puV c with
    | none => none
    | some d => if acc * 16 + d < 4294967296 then puL (acc * 16 + d) r else none := rfl
set_option maxHeartbeats 32000000 in
set_option maxRecDepth 100000 in
theorem c_kParseUint (s : List UInt8) (hne : s ≠ []) (hmax : s.length ≤ 1073741824) (w : World) :
    Calls Tryz.prog 53 #[.string (bs s), .int .i64 16, .int .i64 32] w fun e w' => PuR s e ∧ Below w.heap.size w w' := by
  obtain ⟨t, ht⟩ : ∃ t, t = bs s := ⟨_, rfl⟩
  have hL : t.data.toList = s := by rw [ht]; simp [bs]
  have hsz : t.size = s.length := by rw [ht, bs_size]
  rw [← ht]
  have hemp : t.toList.isEmpty = false := by
    rw [← decide_eq_emptyBytes]
    exact decide_eq_false (fun h => hne (by rw [← hL, h]; rfl))
  have hcv := Lib.run_convert_string_bytes (P := Tryz.prog) w 9 105 5 t (u := .string) Tryz.underlying9 Tryz.underlying105 Tryz.underlying5
  have hB : ∀ j, j < t.size → (Lib.bytesWorld w 5 t).cell? ⟨w.heap.size, j, none⟩ = some (.int .u8 (t.data.toList.getD j 0).toNat) := fun j hj => Lib.bytesWorld_cell w 5 t j hj
  have HW := Lib.hid (Go.Joins.below_bytesWorld w.heap.size w 5 t (Nat.le_refl _))
  generalize Lib.bytesWorld w 5 t = W1 at *
  rw [hL] at hB
  have hmv : IntKind.u64.wrap (IntKind.u64.wrap 4294967296 - 1) = 4294967295 := by
    rw [IntKind.wrap_u64, IntKind.wrap_u64]
    decide
  have hts : t.size ≤ 1073741824 := by omega
  have HN := Lib.hid hne
  clear ht hL hne hmax
  go_enter Tryz.func53, Tryz.ntmps53
  go_wp2
  go_loop [12, 13, 101] (fun vu vn vi => ∃ (k acc : Nat) (a : Int), vu = .bool false ∧ vn = .int .u64 a ∧ vi = .int .i64 k ∧ k ≤ t.size ∧ Hid (a = (acc : Int) ∧ acc < 4294967296 ∧ puL 0 s = puL acc (s.drop k)))
    (fun _ _ vi => t.size - (intOf vi).toNat)
  case atStart => exact ⟨0, 0, 0, rfl, rfl, rfl, by omega, rfl, by decide, rfl⟩
  case round =>
    obtain ⟨k, acc, a, rfl, rfl, rfl, hk, hh⟩ := hrel
    obtain ⟨ha, hacc, hdec⟩ := hh.out
    clear hh
    have hk0 : (0 : Int) ≤ k := by omega
    have hacc0 : 0 ≤ a := by omega
    have hacc1 : a ≤ 4294967295 := by omega
    by_cases hkn : k < t.size
    · have hc := hB k hkn
      have hdrop : s.drop k = s[k]'(by omega) :: s.drop (k + 1) := List.drop_eq_getElem_cons (by omega)
      have hget : s.getD k 0 = s[k]'(by omega) := by simp [List.getD, List.getElem?_eq_getElem (show k < s.length by omega)]
      rw [hdrop, puL_cons] at hdec
      rw [hget] at hc
      generalize s[k]'(by omega) = c at hc hdec
      have hkn2 : (k : Int) < t.size := by omega
      have CL := Lib.hid (fun W => c_lower c W)
      have h95 : c.toNat = 95 → (c ||| 32).toNat = 127 := fun h => by
        have e : c = 95 := UInt8.toNat_inj.1 h
        subst e; rfl
      have hz : c.toNat < 256 := c.toNat_lt
      have hy : (c ||| 32).toNat < 256 := (c ||| 32).toNat_lt
      have hp : puV c = if 48 ≤ c.toNat ∧ c.toNat ≤ 57 then some (c.toNat - 48) else if 97 ≤ (c ||| 32).toNat ∧ (c ||| 32).toNat ≤ 122 then (if (c ||| 32).toNat - 87 < 16 then some ((c ||| 32).toNat - 87) else none) else none := rfl
      clear hB hdrop hget
      generalize (c ||| 32).toNat = y at *
      generalize puV c = p at *
      generalize c.toNat = z at *
      by_cases hdig : 48 ≤ z ∧ z ≤ 57
      · rw [if_pos hdig] at hp
        subst hp
        obtain ⟨hd0, hd1⟩ := hdig
        have i0 : (48 : Int) ≤ z := by omega
        have i1 : (z : Int) ≤ 57 := by omega
        have i2 : z ≠ 95 := by omega
        by_cases hov : acc * 16 + (z - 48) < 4294967296
        · have HR := Lib.hid (show a * 16 + ((z : Int) - 48) = ((acc * 16 + (z - 48) : Nat) : Int) ∧ acc * 16 + (z - 48) < 4294967296 ∧ puL 0 s = puL (acc * 16 + (z - 48)) (s.drop (k + 1)) from ⟨by omega, hov, hdec.trans (if_pos hov)⟩)
          have iov : a * 16 + ((z : Int) - 48) ≤ 4294967295 := by omega
          clear hdec hov CL hz hy hacc ha h95
          go_wp2
          refine ⟨⟨k + 1, acc * 16 + (z - 48), a * 16 + ((z : Int) - 48), rfl, (by first | rfl | (congr 1; omega)), (by first | rfl | (congr 1; omega)), by omega, HR⟩, by simp [intOf]; omega⟩
        · have HE := Lib.hid (hdec.trans (if_neg hov))
          have iov : 4294967295 < a * 16 + ((z : Int) - 48) := by omega
          clear hdec hov CL hz hy hacc ha h95
          go_wp2
          go_ret2
          exact ⟨.inr ⟨.inr HE.out, _, _, .inl rfl, rfl⟩, HW.out⟩
      · rw [if_neg hdig] at hp
        by_cases hlet : 97 ≤ y ∧ y ≤ 122
        · rw [if_pos hlet] at hp
          obtain ⟨hd0, hd1⟩ := hlet
          have i0 : (97 : Int) ≤ y := by omega
          have i2 : z ≠ 95 := by omega
          have i1 : (y : Int) ≤ 122 := by omega
          by_cases h16 : y - 87 < 16
          · rw [if_pos h16] at hp
            subst hp
            have i3 : (y : Int) ≤ 102 := by omega
            by_cases hov : acc * 16 + (y - 87) < 4294967296
            · have HR := Lib.hid (show a * 16 + ((y : Int) - 87) = ((acc * 16 + (y - 87) : Nat) : Int) ∧ acc * 16 + (y - 87) < 4294967296 ∧ puL 0 s = puL (acc * 16 + (y - 87)) (s.drop (k + 1)) from ⟨by omega, hov, hdec.trans (if_pos hov)⟩)
              have iov : a * 16 + ((y : Int) - 97 + 10) ≤ 4294967295 := by omega
              clear hdec hov hz hy hacc ha h95
              go_wp2_with (go_at_call 69; refine (CL.out _).mono ?_; rintro e w' ⟨rfl, rfl⟩)
              all_goals refine ⟨⟨k + 1, acc * 16 + (y - 87), a * 16 + ((y : Int) - 87), rfl, (by first | rfl | (congr 1; omega)), (by first | rfl | (congr 1; omega)), by omega, HR⟩, by simp [intOf]; omega⟩
            · have HE := Lib.hid (hdec.trans (if_neg hov))
              have iov : 4294967295 < a * 16 + ((y : Int) - 97 + 10) := by omega
              clear hdec hov hz hy hacc ha h95
              go_wp2_with (go_at_call 69; refine (CL.out _).mono ?_; rintro e w' ⟨rfl, rfl⟩)
              all_goals go_ret2
              all_goals exact ⟨.inr ⟨.inr HE.out, _, _, .inl rfl, rfl⟩, HW.out⟩
          · rw [if_neg h16] at hp
            subst hp
            have HE := Lib.hid hdec
            have i3 : (103 : Int) ≤ y := by omega
            clear hdec hz hy hacc ha h95
            go_wp2_with (go_at_call 69; refine (CL.out _).mono ?_; rintro e w' ⟨rfl, rfl⟩)
            all_goals go_ret2
            all_goals exact ⟨.inr ⟨.inr HE.out, _, _, .inr rfl, rfl⟩, HW.out⟩
        · rw [if_neg hlet] at hp
          subst hp
          have HE := Lib.hid hdec
          by_cases i2 : z = 95
          · have C9 := Lib.hid (fun W => show Calls Tryz.prog 69 #[.int .u8 95] W fun e w' => e = .returned (.int .u8 127) ∧ w' = W from c_lower 95 W)
            subst i2
            clear hdec hz hy hacc ha h95 hdig hlet CL
            go_wp2_with (go_at_call 69; refine (C9.out _).mono ?_; rintro e w' ⟨rfl, rfl⟩)
            all_goals go_ret2
            all_goals exact ⟨.inr ⟨.inr HE.out, _, _, .inr rfl, rfl⟩, HW.out⟩
          · clear hdec hz hy hacc ha h95
            go_wp2_with (go_at_call 69; refine (CL.out _).mono ?_; rintro e w' ⟨rfl, rfl⟩)
            all_goals go_ret2
            all_goals exact ⟨.inr ⟨.inr HE.out, _, _, .inr rfl, rfl⟩, HW.out⟩
    · have hkk : k = t.size := by omega
      subst hkk
      have HE := Lib.hid (show puL 0 s = some acc from by rw [hdec, List.drop_eq_nil_of_le (by omega)]; rfl)
      subst ha
      clear hdec hacc hacc0 hacc1
      go_wp2
      go_ret2
      exact ⟨.inl ⟨acc, HN.out, HE.out, rfl⟩, HW.out⟩
end Go.Proofs.YtdhpaglcggeknaaGreatDoor
namespace Go.Fl
open Go.RowKit
theorem bs_toList (a : List UInt8) : (bs a).toList = a := by rw [ByteArray.toList_eq]; simp [bs]
theorem bs_beq (a b : List UInt8) : ((bs a).toList == (bs b).toList) = decide (a = b) := by
  rw [bs_toList, bs_toList]
  by_cases h : a = b
  · subst h; simp
  · rw [decide_eq_false h]; simpa using h
end Go.Fl
namespace Go.Proofs.YtdhpaglcggeknaaGreatDoor
open Go.RowKit Go.Fl
/-- The library's two error values are as they were laid. -/
def Ev (w : World) : Prop := (∃ tp p, w.var? Tryz.prog "strconv.ErrSyntax" = some #[.iface tp p]) ∧ (∃ tp p, w.var? Tryz.prog "strconv.ErrRange" = some #[.iface tp p])
theorem Ev.on {w w' : World} (h : Ev w) (hb : Below w.heap.size w w') : Ev w' := by
  obtain ⟨⟨t1, p1, h1⟩, ⟨t2, p2, h2⟩⟩ := h
  exact ⟨⟨t1, p1, Go.Joins.var_stays (show Tryz.prog.globalNamed "strconv.ErrSyntax" = some 2 by kernel_rfl) h1 hb (Nat.le_refl _)⟩, ⟨t2, p2, Go.Joins.var_stays (show Tryz.prog.globalNamed "strconv.ErrRange" = some 3 by kernel_rfl) h2 hb (Nat.le_refl _)⟩⟩
theorem Ev.syn {w : World} (h : Ev w) : ∃ ev, w.cell? ⟨2, 0, none⟩ = some ev ∧ (ev = .nilIface ∨ ∃ te pe, ev = .iface te pe) := by
  obtain ⟨⟨t1, p1, h1⟩, _⟩ := h
  exact ⟨_, by have h0 := World.var?_cell (show Tryz.prog.globalNamed "strconv.ErrSyntax" = some 2 by kernel_rfl) h1 0; simpa using h0, .inr ⟨t1, p1, rfl⟩⟩
theorem Ev.rng {w : World} (h : Ev w) : ∃ ev, w.cell? ⟨3, 0, none⟩ = some ev ∧ (ev = .nilIface ∨ ∃ te pe, ev = .iface te pe) := by
  obtain ⟨_, ⟨t1, p1, h1⟩⟩ := h
  exact ⟨_, by have h0 := World.var?_cell (show Tryz.prog.globalNamed "strconv.ErrRange" = some 3 by kernel_rfl) h1 0; simpa using h0, .inr ⟨t1, p1, rfl⟩⟩
/-- What the public reader of numbers hands back. -/
def PuC (s : List UInt8) (e : Ending) : Prop := (∃ n, s ≠ [] ∧ puL 0 s = some n ∧ e = .returned (.tuple #[.int .u64 (n : Nat), .nilIface])) ∨ ((s = [] ∨ puL 0 s = none) ∧ ∃ (v : Int) (N : Nat), e = .returned (.tuple #[.int .u64 v, .iface 106 (.pointer (some ⟨N, 0, none⟩))]))
set_option maxRecDepth 100000 in
set_option maxHeartbeats 2000000 in
theorem c_kParseUint_nil (w : World) : Calls Tryz.prog 53 #[.string (bs []), .int .i64 16, .int .i64 32] w fun e w' => PuR [] e ∧ Below w.heap.size w w' := by
  show Calls Tryz.prog 53 #[.string ⟨#[]⟩, .int .i64 16, .int .i64 32] w fun e w' => PuR [] e ∧ Below w.heap.size w w'
  go_enter Tryz.func53, Tryz.ntmps53
  go_wp2
  go_ret2
  exact ⟨.inr ⟨.inl rfl, _, _, .inr rfl, rfl⟩, Below.refl _ _⟩
theorem c_kParseUintA (s : List UInt8) (hmax : s.length ≤ 1073741824) (w : World) :
    Calls Tryz.prog 53 #[.string (bs s), .int .i64 16, .int .i64 32] w fun e w' => PuR s e ∧ Below w.heap.size w w' := by
  by_cases h : s = []
  · subst h; exact c_kParseUint_nil w
  · exact c_kParseUint s h hmax w
set_option maxRecDepth 20000 in
set_option maxHeartbeats 2000000 in
theorem c_cParseUint (s : List UInt8) (hmax : s.length ≤ 1073741824) (w : World) (hE : Ev w) :
    Calls Tryz.prog 32 #[.string (bs s), .int .i64 16, .int .i64 32] w fun e w' => PuC s e ∧ Below w.heap.size w w' := by
  have HK := Lib.hid (fun W => c_kParseUintA s hmax W)
  have HE := Lib.hid hE
  have hsz : (bs s).size ≤ 281474976710656 := by rw [bs_size]; omega
  clear hE hmax
  generalize bs s = t at *
  have HT : Hid (∀ (W : World) (ev : Value), W.cell? ⟨2, 0, none⟩ = some ev → (ev = .nilIface ∨ ∃ te pe, ev = .iface te pe) → _) := Lib.hid (fun W ev hv hev => Tryz.strconv_toError_syntax ⟨#[80, 97, 114, 115, 101, 85, 105, 110, 116]⟩ t 16 32 ev W hsz hv hev)
  have HR : Hid (∀ (W : World) (ev : Value), W.cell? ⟨3, 0, none⟩ = some ev → (ev = .nilIface ∨ ∃ te pe, ev = .iface te pe) → _) := Lib.hid (fun W ev hv hev => Tryz.strconv_toError_range ⟨#[80, 97, 114, 115, 101, 85, 105, 110, 116]⟩ t 16 32 ev W hsz hv hev)
  clear hsz
  go_enter Tryz.func32, Tryz.ntmps32
  go_wp2_with fail
  refine (HK.out _).mono ?_; rintro e w1 ⟨hp, b⟩
  rcases hp with ⟨n, hn, hp, rfl⟩ | ⟨hp, v, k, hk, rfl⟩
  · have HB := Lib.hid b; clear b
    go_wp2_with fail
    go_ret2
    exact ⟨.inl ⟨n, hn, hp, rfl⟩, HB.out⟩
  · have HB := Lib.hid b; have HE1 := Lib.hid (HE.out.on b); clear b
    rcases hk with rfl | rfl
    · obtain ⟨ev, h1, h2⟩ := HE1.out.rng
      have C := Lib.hid (HR.out w1 ev h1 h2); clear h1 h2
      go_wp2_with fail
      refine C.out.mono ?_; rintro e w2 ⟨N, rfl, _, _, b⟩
      have HZ := Lib.hid (seq_below HB.out b); clear b
      go_wp2_with fail
      go_ret2
      exact ⟨.inr ⟨hp, v, N, rfl⟩, HZ.out⟩
    · obtain ⟨ev, h1, h2⟩ := HE1.out.syn
      have C := Lib.hid (HT.out w1 ev h1 h2); clear h1 h2
      go_wp2_with fail
      refine C.out.mono ?_; rintro e w2 ⟨N, rfl, _, _, b⟩
      have HZ := Lib.hid (seq_below HB.out b); clear b
      go_wp2_with fail
      go_ret2
      exact ⟨.inr ⟨hp, v, N, rfl⟩, HZ.out⟩
/-- What a reader of a sample hands back. -/
def RdR (s : List UInt8) (e : Ending) : Prop := (∃ n, rd s = some n ∧ e = .returned (.tuple #[.float .f32 n, .bool true])) ∨ (rd s = none ∧ ∃ v, e = .returned (.tuple #[.float .f32 v, .bool false]))
set_option maxRecDepth 20000 in
set_option maxHeartbeats 2000000 in
theorem c_readBits (s : List UInt8) (hmax : s.length ≤ 1073741824) (w : World) (hT : Tz w) (hE : Ev w) :
    Calls Tryz.prog 16 #[.string (bs s)] w fun e w' => RdR s e ∧ Below w.heap.size w w' := by
  have HK := Lib.hid (c_cParseUint s hmax w hE)
  have HT := Lib.hid hT
  clear hT hE hmax
  go_enter Tryz.func16, Tryz.ntmps16
  go_wp2_with fail
  refine HK.out.mono ?_; rintro e w1 ⟨hp, b⟩
  have HB := Lib.hid b; have HT1 := Lib.hid (HT.out.on b); clear b
  rcases hp with ⟨n, hn, hp, rfl⟩ | ⟨hp, v, N, rfl⟩
  · have hlt := puL_lt s 0 n (by decide) hp
    have hd := rd_pu hp
    have CB := Lib.hid (fun W (h : Tz W) => c_bitsText n hlt W h)
    have HL := Lib.hid hlt
    have i0 : (0 : Int) ≤ n := by omega
    have i1 : (n : Int) ≤ 4294967295 := by omega
    have hR : RdR s (.returned (.tuple #[.float .f32 n, .bool ((bs (hexT8 n)).toList == (bs s).toList)])) := by
      rw [bs_beq]
      by_cases e : hexT8 n = s
      · have h1 : rd s = some n := by
          have := rd_hexT8 hlt
          rw [decide_eq_true e] at hd
          cases hr : rd s with
          | none => rw [hr] at hd; cases hd
          | some m =>
            have := puL_rd hr
            rw [hp] at this; exact this.symm
        exact .inl ⟨n, h1, by rw [decide_eq_true e]⟩
      · have h1 : rd s = none := by
          rw [decide_eq_false e] at hd
          cases hr : rd s with
          | none => rfl
          | some m => rw [hr] at hd; cases hd
        exact .inr ⟨h1, n, by rw [decide_eq_false e]⟩
    have HR := Lib.hid hR
    clear hR hd hlt hp hn
    go_wp2_with fail
    refine (CB.out _ HT1.out).mono ?_; rintro e w2 ⟨rfl, b⟩
    have HZ := Lib.hid (seq_below HB.out b); clear b
    go_wp2_with fail
    go_ret2
    exact ⟨HR.out, HZ.out⟩
  · have HR := Lib.hid (show rd s = none from by
      rcases hp with rfl | hp
      · rfl
      · exact rd_pu_none hp)
    clear hp
    go_wp2_with fail
    go_ret2
    exact ⟨.inr ⟨HR.out, 0, rfl⟩, HB.out⟩
end Go.Proofs.YtdhpaglcggeknaaGreatDoor
namespace Go.Proofs.YtdhpaglcggeknaaGreatDoor
open Go.RowKit Go.Fl
theorem hexP_cons (acc : Nat) (c : UInt8) (r : List UInt8) : hexP acc (c :: r) = match hexV c with
    | none => none
    | some d => hexP (acc * 16 + d) r := rfl
theorem c_l01Read_long (s : List UInt8) (h8 : s.length ≠ 8) (w : World) :
    Calls Tryz.prog 10 #[.string (bs s)] w fun e w' => RdR s e ∧ Below w.heap.size w w' := by
  have hr : rd s = none := if_neg h8
  have hsz : (bs s).size ≠ 8 := by rw [bs_size]; exact h8
  have HR := Lib.hid hr
  clear hr h8
  obtain ⟨t, ht⟩ : ∃ t, t = bs s := ⟨_, rfl⟩
  rw [← ht] at hsz ⊢
  clear ht
  go_enter Tryz.func10, Tryz.ntmps10
  go_wp2
  go_ret2
  exact ⟨.inr ⟨HR.out, 0, rfl⟩, Below.refl _ _⟩
set_option maxHeartbeats 4000000 in
set_option maxRecDepth 100000 in
theorem c_l01Read8 (s : List UInt8) (h8 : s.length = 8) (w : World) :
    Calls Tryz.prog 10 #[.string (bs s)] w fun e w' => RdR s e ∧ Below w.heap.size w w' := by
  have hrd : rd s = match hexP 0 s with | some n => if bitsN n = n then some n else none | none => none := if_pos h8
  have HRD := Lib.hid hrd
  have hsz : (bs s).size = 8 := by rw [bs_size]; exact h8
  obtain ⟨t, ht⟩ : ∃ t, t = bs s := ⟨_, rfl⟩
  have hget : ∀ k (h : k < t.size) (hj : k < s.length), t[k]'h = s[k]'hj := by
    subst ht
    intro k h hj
    show (bs s).data[k]'h = _
    simp [bs]
  rw [← ht] at hsz ⊢
  clear ht hrd
  go_enter Tryz.func10, Tryz.ntmps10
  go_wp2
  go_loop [4, 5] (fun vn vi => ∃ (k acc : Nat) (a : Int), vn = .int .u32 a ∧ vi = .int .i64 k ∧ k ≤ 8 ∧ Hid (a = (acc : Int) ∧ acc < 16 ^ k ∧ hexP 0 s = hexP acc (s.drop k)))
    (fun _ vi => 8 - (intOf vi).toNat)
  case atStart => exact ⟨0, 0, 0, rfl, rfl, by omega, rfl, by decide, rfl⟩
  case round =>
    obtain ⟨k, acc, a, rfl, rfl, hk, hh⟩ := hrel
    obtain ⟨ha, hacc, hdec⟩ := hh.out
    clear hh
    have hk0 : (0 : Int) ≤ k := by omega
    by_cases hkn : k < 8
    · have h7 : acc < 268435456 := Nat.lt_of_lt_of_le hacc (by
        have : (16 : Nat) ^ k ≤ 16 ^ 7 := Nat.pow_le_pow_right (by decide) (by omega)
        exact this)
      have hacc0 : 0 ≤ a := by omega
      have hacc1 : a ≤ 268435455 := by omega
      have hdrop : s.drop k = s[k]'(by omega) :: s.drop (k + 1) := List.drop_eq_getElem_cons (by omega)
      have hkt : k < t.size := by omega
      have hc := hget k hkt (by omega)
      rw [hdrop, hexP_cons] at hdec
      generalize s[k]'(by omega) = c at hc hdec
      have hkn2 : (k : Int) < 8 := by omega
      have hp : hexV c = if 48 ≤ c.toNat ∧ c.toNat ≤ 57 then some (c.toNat - 48) else if 97 ≤ c.toNat ∧ c.toNat ≤ 102 then some (c.toNat - 87) else none := rfl
      have hz : c.toNat < 256 := c.toNat_lt
      have hstep : ∀ d, d < 16 → acc * 16 + d < 16 ^ (k + 1) := fun d hd => by rw [Nat.pow_succ]; omega
      generalize hexV c = p at *
      clear hget hdrop
      have hcz : (t[k]'hkt).toNat = c.toNat := by rw [hc]
      clear hc
      generalize c.toNat = z at *
      by_cases hdig : 48 ≤ z ∧ z ≤ 57
      · rw [if_pos hdig] at hp
        subst hp
        obtain ⟨hd0, hd1⟩ := hdig
        have i0 : (48 : Int) ≤ z := by omega
        have i1 : (z : Int) ≤ 57 := by omega
        have HR := Lib.hid (show a * 16 + ((z : Int) - 48) = ((acc * 16 + (z - 48) : Nat) : Int) ∧ acc * 16 + (z - 48) < 16 ^ (k + 1) ∧ hexP 0 s = hexP (acc * 16 + (z - 48)) (s.drop (k + 1)) from ⟨by omega, hstep _ (by omega), hdec⟩)
        clear hdec hz hacc ha hstep h7
        go_wp2
        refine ⟨⟨k + 1, acc * 16 + (z - 48), a * 16 + ((z : Int) - 48), (by first | rfl | (congr 1; omega)), (by first | rfl | (congr 1; omega)), by omega, HR⟩, by simp [intOf]; omega⟩
      · rw [if_neg hdig] at hp
        by_cases hlet : 97 ≤ z ∧ z ≤ 102
        · rw [if_pos hlet] at hp
          subst hp
          obtain ⟨hd0, hd1⟩ := hlet
          have i0 : (97 : Int) ≤ z := by omega
          have i1 : (z : Int) ≤ 102 := by omega
          have HR := Lib.hid (show a * 16 + ((z : Int) - 97) + 10 = ((acc * 16 + (z - 87) : Nat) : Int) ∧ acc * 16 + (z - 87) < 16 ^ (k + 1) ∧ hexP 0 s = hexP (acc * 16 + (z - 87)) (s.drop (k + 1)) from ⟨by omega, hstep _ (by omega), hdec⟩)
          clear hdec hz hacc ha hstep h7 hdig
          go_wp2
          refine ⟨⟨k + 1, acc * 16 + (z - 87), a * 16 + ((z : Int) - 97) + 10, (by first | rfl | (congr 1; omega)), (by first | rfl | (congr 1; omega)), by omega, HR⟩, by simp [intOf]; omega⟩
        · rw [if_neg hlet] at hp
          subst hp
          have HE : Hid (rd s = none) := Lib.hid (by rw [HRD.out, hdec])
          clear hdec hz hacc ha hstep h7
          go_wp2
          all_goals go_ret2
          all_goals exact ⟨.inr ⟨HE.out, 0, rfl⟩, Below.refl _ _⟩
    · have hkk : k = 8 := by omega
      subst hkk
      have HE : Hid (rd s = if bitsN acc = acc then some acc else none) := Lib.hid (by rw [HRD.out, hdec, List.drop_eq_nil_of_le (by omega)]; rfl)
      have h7 : acc < 4294967296 := hacc
      have hacc0 : (0 : Int) ≤ acc := by omega
      have hacc1 : (acc : Int) ≤ 4294967295 := by omega
      subst ha
      clear hdec hacc hget
      go_wp2_with (go_at_call 27; refine (c_l01Bits _ _).mono ?_; rintro e w1 ⟨rfl, hww⟩; obtain rfl := hww.symm)
      go_ret2
      refine ⟨?_, Below.refl _ _⟩
      have hE := HE.out
      by_cases e : bitsN acc = acc
      · rw [if_pos e] at hE
        refine .inl ⟨acc, hE, ?_⟩
        have e2 : ((bitsN acc : Int) == (acc : Int)) = true := by rw [e]; simp
        simp [e2]
      · rw [if_neg e] at hE
        refine .inr ⟨hE, acc, ?_⟩
        have e2 : ((bitsN acc : Int) == (acc : Int)) = false := beq_false_of_ne (by omega)
        simp [e2]
theorem c_l01Read (s : List UInt8) (w : World) :
    Calls Tryz.prog 10 #[.string (bs s)] w fun e w' => RdR s e ∧ Below w.heap.size w w' := by
  by_cases h : s.length = 8
  · exact c_l01Read8 s h w
  · exact c_l01Read_long s h w
end Go.Proofs.YtdhpaglcggeknaaGreatDoor
namespace Go.Fl
open Go.RowKit
/-- A text cut at a byte. -/
def spl (c : UInt8) : List UInt8 → List (List UInt8)
  | [] => [[]]
  | b :: r => if b = c then [] :: spl c r else match spl c r with
    | [] => [[b]]
    | p :: ps => (b :: p) :: ps
theorem spl_hit (c : UInt8) : ∀ (a r : List UInt8), c ∉ a → spl c (a ++ c :: r) = a :: spl c r
  | [], r, _ => by simp [spl]
  | b :: a, r, h => by
    have hb : ¬ b = c := fun e => h (by simp [e])
    have ih := spl_hit c a r (fun e => h (by simp [e]))
    simp only [List.cons_append, spl, if_neg hb, ih]
theorem spl_miss (c : UInt8) : ∀ (a : List UInt8), c ∉ a → spl c a = [a]
  | [], _ => rfl
  | b :: a, h => by
    have hb : ¬ b = c := fun e => h (by simp [e])
    have ih := spl_miss c a (fun e => h (by simp [e]))
    unfold spl
    rw [if_neg hb, ih]
theorem indexByte_cases (c : UInt8) : ∀ l : List UInt8, (Lib.indexByte l c = -1 ∧ c ∉ l) ∨ ∃ a r, l = a ++ c :: r ∧ c ∉ a ∧ Lib.indexByte l c = (a.length : Int)
  | [] => .inl ⟨rfl, by simp⟩
  | b :: l => by
    by_cases hb : b = c
    · subst hb
      exact .inr ⟨[], l, rfl, by simp, by simp [Lib.indexByte]⟩
    · have hbb : (b == c) = false := by simpa using hb
      rcases indexByte_cases c l with ⟨h1, h2⟩ | ⟨a, r, h1, h2, h3⟩
      · refine .inl ⟨by unfold Lib.indexByte; rw [hbb, h1]; rfl, ?_⟩
        intro h
        rcases List.mem_cons.1 h with e | e
        · exact hb e.symm
        · exact h2 e
      · refine .inr ⟨b :: a, r, by rw [h1]; rfl, ?_, ?_⟩
        · intro h
          rcases List.mem_cons.1 h with e | e
          · exact hb e.symm
          · exact h2 e
        · unfold Lib.indexByte
          rw [hbb, h3]
          have : ((a.length : Int) == -1) = false := beq_false_of_ne (by omega)
          simp [this]
theorem splitK_spl (c : UInt8) : ∀ (n : Nat) (l : List UInt8), l.length ≤ n → Lib.splitK [c] 0 (Lib.count l [c]) l = spl c l := by
  intro n
  induction n with
  | zero =>
    intro l h
    have : l = [] := List.length_eq_zero_iff.1 (by omega)
    subst this
    have hi : Lib.index [] [c] = -1 := rfl
    rw [Lib.count_miss hi]; rfl
  | succ n ih =>
    intro l h
    rcases indexByte_cases c l with ⟨h1, h2⟩ | ⟨a, r, h1, h2, h3⟩
    · rw [← Lib.index_one] at h1
      rw [Lib.count_miss h1, spl_miss c l h2]; rfl
    · rw [← Lib.index_one] at h3
      have hd : l.drop (a.length + [c].length) = r := by
        rw [h1, List.length_singleton, List.drop_append]
        simp
      have ht : l.take a.length = a := by rw [h1]; simp
      rw [Lib.count_hit (by simp) h3, hd, Nat.add_comm 1]
      unfold Lib.splitK
      rw [if_neg (by rw [h3]; simp; try omega), h3]
      have e : ((a.length : Int)).toNat = a.length := rfl
      rw [e, Nat.add_zero, ht, hd, ih r (by rw [h1] at h; simp at h; first | done | omega), h1, spl_hit c a r h2]
theorem bs_data (s : List UInt8) : (bs s).data.toList = s := by simp [bs]
theorem splitB_spl (s : List UInt8) (c : UInt8) : (Lib.splitB (bs [c]) 0 (Lib.countB (bs s) (bs [c])) (bs s)) = (spl c s).map bs := by
  have h := Lib.splitB_data (bs [c]) 0 (Lib.countB (bs s) (bs [c])) (bs s)
  rw [bs_data, bs_data] at h
  have h2 : Lib.countB (bs s) (bs [c]) = Lib.count s [c] := by show Lib.count _ _ = _; rw [bs_data, bs_data]
  rw [h2, splitK_spl c s.length s (Nat.le_refl _)] at h
  rw [h2, ← h, List.map_map]
  conv => lhs; rw [← List.map_id (Lib.splitB (bs [c]) 0 (Lib.count s [c]) (bs s))]
  apply List.map_congr_left
  intro t _
  exact (bs_of t).symm
theorem countB_spl (s : List UInt8) (c : UInt8) : Lib.countB (bs s) (bs [c]) + 1 = (spl c s).length := by
  have h := congrArg List.length (splitB_spl s c)
  rw [List.length_map] at h
  rw [← h]
  exact (Lib.splitB_all (bs [c]) (by rw [bs_size]; exact Nat.le_refl _) 0 _ _ rfl).symm
/-- Texts in a row of memory, from a place on. -/
def Prt (w : World) (g o : Nat) (ps : List (List UInt8)) : Prop := g < w.heap.size ∧ ∀ j p, ps[j]? = some p → w.cell? ⟨g, o + j, none⟩ = some (.string (bs p))
theorem Prt.below {w w' : World} {g o : Nat} {ps : List (List UInt8)} (h : Prt w g o ps) {B : Nat} (hb : Below B w w') (hB : g < B) : Prt w' g o ps :=
  ⟨Nat.lt_of_lt_of_le h.1 hb.size, fun j p hp => by rw [hb.cell (p := ⟨g, o + j, none⟩) hB]; exact h.2 j p hp⟩
theorem Prt.on {w w' : World} {g o : Nat} {ps : List (List UInt8)} (h : Prt w g o ps) (hb : Below w.heap.size w w') : Prt w' g o ps := h.below hb h.1
theorem Prt.drop {w : World} {g o : Nat} {ps : List (List UInt8)} (h : Prt w g o ps) (k : Nat) : Prt w g (o + k) (ps.drop k) :=
  ⟨h.1, fun j p hp => by rw [List.getElem?_drop] at hp; have := h.2 _ p hp; rwa [← Nat.add_assoc] at this⟩
end Go.Fl
namespace Go.Proofs.YtdhpaglcggeknaaGreatDoor
open Go.RowKit Go.Fl
/-- The library's bound on short searches holds some number. -/
def Mx (w : World) : Prop := ∃ m, w.cell? ⟨1, 0, none⟩ = some (.int .i64 m)
theorem Mx.on {w w' : World} (h : Mx w) (hb : Below w.heap.size w w') : Mx w' := by
  obtain ⟨m, hm⟩ := h
  exact ⟨m, by rw [hb.cell (p := ⟨1, 0, none⟩) (World.block_lt_of_cell? _ _ hm)]; exact hm⟩
theorem mx_of {w : World} (h : w.ShapedOpen Tryz.prog) : Mx w := Tryz.laysM146.s1_3 w h
theorem c_split (s : List UInt8) (hs : s.length ≤ 1073741824) (w : World) (hM : Mx w) :
    Calls Tryz.prog 15 #[.string (bs s), .string ⟨#[32]⟩] w fun e w' => ∃ g, e = .returned (.slice (some ⟨g, 0, none⟩) (spl 32 s).length (spl 32 s).length) ∧ Prt w' g 0 (spl 32 s) ∧ Below w.heap.size w w' := by
  obtain ⟨m, hm⟩ := hM
  refine (Tryz.strings_Split (bs s) (bs [32]) m w (by rw [bs_size]; omega) hm (by rw [bs_size]; decide)).mono fun e w' ⟨he, hw⟩ => ?_
  rw [countB_spl] at he
  rw [splitB_spl] at hw
  subst hw
  refine ⟨w.heap.size, he, ⟨by simp, fun j p hp => ?_⟩, Go.Joins.below_alloc1 _ _⟩
  rw [Nat.zero_add]
  rw [Go.Joins.cell_of_block (heap_alloc_new w _)]
  simp [hp]
end Go.Proofs.YtdhpaglcggeknaaGreatDoor
namespace Go.Proofs.YtdhpaglcggeknaaGreatDoor
open Go.RowKit Go.Fl
def txP (p : List UInt8) : Value := .string (bs p)
theorem OwnR.empty (w : World) (t : TypeId) (size : Nat) : OwnR (w.alloc (.cells #[] t)) w.heap.size (some ⟨w.heap.size, 0, none⟩) 0 0 [] t size :=
  ⟨by simp, .inr ⟨w.heap.size, 0, #[], rfl, Nat.le_refl _, heap_alloc_new w _, Nat.le_refl _, Nat.zero_le _, by simp, by simp⟩⟩
set_option maxHeartbeats 4000000 in
set_option maxRecDepth 100000 in
theorem c_l01Split (s : List UInt8) (hs : s.length ≤ 1048576) (w : World) :
    Calls Tryz.prog 9 #[.string (bs s), .int .u8 32] w fun e w' => ∃ g c, e = .returned (.slice (some ⟨g, 0, none⟩) (spl 32 s).length c) ∧ Prt w' g 0 (spl 32 s) ∧ Below w.heap.size w w' := by
  have hsz : (bs s).size = s.length := bs_size s
  obtain ⟨t, ht⟩ : ∃ t, t = bs s := ⟨_, rfl⟩
  have hget : ∀ k (h : k < t.size) (hj : k < s.length), t[k]'h = s[k]'hj := by
    subst ht
    intro k h hj
    show (bs s).data[k]'h = _
    simp [bs]
  have hext : ∀ a b, Value.string (t.extract a b) = txP ((s.drop a).take (b - a)) := by
    subst ht
    intro a b
    rw [Lib.extract_eq, bs_data]; rfl
  rw [← ht] at hsz ⊢
  have HX := Lib.hid hext; have HG := Lib.hid hget; have HL := Lib.hid hs; have HZ := Lib.hid hsz
  have hts : (t.size : Int) ≤ 1048576 := by omega
  clear ht hget hext hs hsz
  go_enter Tryz.func9, Tryz.ntmps9
  go_wp2
  go_loopw [5, 6, 7] (fun v f i wr => ∃ (k b : Nat) (D : List (List UInt8)) (W : Option Addr) (d : Nat), k ≤ t.size ∧ b ≤ k ∧ D.length ≤ k ∧ f = .int .i64 b ∧ i = .int .i64 k ∧ v = .slice W D.length d ∧ Hid ((32 : UInt8) ∉ (s.drop b).take (k - b) ∧ spl 32 s = D ++ spl 32 (s.drop b)) ∧ OwnR wr w.heap.size W d D.length (D.map txP) 9 1 ∧ Below w.heap.size w wr) (fun _ _ i _ => t.size - (intOf i).toNat)
  case atStart => exact ⟨0, 0, [], some ⟨w.heap.size, 0, none⟩, 0, by omega, by omega, by simp, rfl, rfl, rfl, ⟨by simp, by simp⟩, OwnR.empty _ _ _, Go.Joins.below_alloc1 _ _⟩
  case round =>
    obtain ⟨k, b, D, W, d, hk, hbk, hD, rfl, rfl, rfl, HR, ho, hb⟩ := hrel
    have HO := Lib.hid ho; have HB := Lib.hid hb; clear ho hb
    have HSZ := Lib.hid HB.out.size
    have hk0 : (0 : Int) ≤ k := by omega
    have hb0 : (0 : Int) ≤ b := by omega
    have hbk2 : (b : Int) ≤ k := by omega
    by_cases hkn : k < t.size
    · have hc := HG.out k hkn (by have := HZ.out; omega)
      have hkn2 : (k : Int) < t.size := by omega
      have hdk : (s.drop b).take (k + 1 - b) = (s.drop b).take (k - b) ++ [s[k]'(by have := HZ.out; omega)] := by
        have h1 : k + 1 - b = (k - b) + 1 := by omega
        rw [h1, List.take_succ_eq_append_getElem (by rw [List.length_drop]; have := HZ.out; omega)]
        congr 2
        rw [List.getElem_drop]
        congr 1; omega
      have hdd : s.drop b = (s.drop b).take (k - b) ++ (s[k]'(by have := HZ.out; omega)) :: s.drop (k + 1) := by
        have h1 := (List.take_append_drop (k - b) (s.drop b)).symm
        rw [List.drop_drop, show b + (k - b) = k from by omega, List.drop_eq_getElem_cons (l := s) (i := k) (by have := HZ.out; omega)] at h1
        exact h1
      generalize s[k]'(by have := HZ.out; omega) = c at hc hdk hdd
      have hcz : (t[k]'hkn).toNat = c.toNat := by rw [hc]
      clear hc
      by_cases h32 : c = 32
      · subst h32
        have hcz2 : ((t[k]'hkn).toNat : Int) = 32 := by rw [hcz]; rfl
        have HR2 := Lib.hid (show (32 : UInt8) ∉ (s.drop (k + 1)).take (k + 1 - (k + 1)) ∧ spl 32 s = (D ++ [(s.drop b).take (k - b)]) ++ spl 32 (s.drop (k + 1)) from by
          refine ⟨by simp, ?_⟩
          rw [HR.out.2]
          conv => lhs; rw [hdd]
          rw [spl_hit 32 _ _ HR.out.1, List.append_assoc]; rfl)
        have HE := Lib.hid (HX.out b k)
        have HK1 : Hid (k ≤ 1048576) := Lib.hid (by omega)
        have HD1 := Lib.hid hD
        clear hdk hdd HR
        go_wp2_with (at_builtin; refine wpList_append_oneR rfl _ _ 37 rfl w.heap.size 9 (.string ⟨#[]⟩) 1 16 Tryz.underlying37 info_stre rfl (by decide) rfl HO.out [.string (t.extract b k)] rfl (by simp [Value.oneCell']) rfl (by have := HK1.out; have := HD1.out; omega) (by decide) HSZ.out ?_; intro A2 c2 w2 ho2 hg2 _; have HO2 := Lib.hid ho2; have HG2 := Lib.hid hg2; clear ho2 hg2)
        go_roundw
        case rel =>
          refine ⟨k + 1, k + 1, D ++ [(s.drop b).take (k - b)], A2, c2, by omega, by omega, by simp; omega, by go_num, by go_num, by simp, HR2.out, ?_, HB.out.grown HG2.out HSZ.out HO.out.ge⟩
          have := HO2.out
          rw [HE.out] at this
          simpa using this
        case measure => simp [intOf]; omega
      · have hne : (t[k]'hkn).toNat ≠ 32 := by
          rw [hcz]; intro e
          exact h32 (UInt8.toNat_inj.1 e)
        have hne2 : ¬ ((t[k]'hkn).toNat : Int) = 32 := by omega
        have HR2 := Lib.hid (show (32 : UInt8) ∉ (s.drop b).take (k + 1 - b) ∧ spl 32 s = D ++ spl 32 (s.drop b) from by
          refine ⟨?_, HR.out.2⟩
          rw [hdk]
          intro h
          rcases List.mem_append.1 h with h | h
          · exact HR.out.1 h
          · exact h32 (List.mem_singleton.1 h).symm)
        clear hdk hdd HR hcz h32
        go_wp2
        go_roundw
        case rel => exact ⟨k + 1, b, D, W, d, by omega, by omega, by omega, rfl, by go_num, rfl, HR2.out, HO.out, HB.out⟩
        case measure => simp [intOf]; omega
    · have hkk : k = t.size := by omega
      have HE := Lib.hid (HX.out b t.size)
      have HD1 := Lib.hid (show D.length ≤ 1048576 from by omega)
      have HS := Lib.hid (show spl 32 s = D ++ [(s.drop b).take (t.size - b)] from by
        have h1 := HR.out.1
        have h2 : (s.drop b).take (k - b) = s.drop b := List.take_of_length_le (by rw [List.length_drop]; have := HZ.out; omega)
        rw [h2] at h1
        rw [HR.out.2, spl_miss 32 _ h1, ← hkk, h2])
      have hb3 : (b : Int) ≤ t.size := by omega
      clear HR
      subst hkk
      go_wp2_with (at_builtin; refine wpList_append_oneR rfl _ _ 37 rfl w.heap.size 9 (.string ⟨#[]⟩) 1 16 Tryz.underlying37 info_stre rfl (by decide) rfl HO.out [.string (t.extract b t.size)] rfl (by simp [Value.oneCell']) rfl (by have := HD1.out; omega) (by decide) HSZ.out ?_; intro A2 c2 w2 ho2 hg2 _; have HO2 := Lib.hid ho2; have HG2 := Lib.hid hg2; clear ho2 hg2)
      go_ret
      have ho := HO2.out
      obtain ⟨g, rfl, hg1, hg2⟩ := ho.head (by omega)
      refine ⟨g, c2, ?_, ⟨hg2, fun j p hp => ?_⟩, HB.out.grown HG2.out HSZ.out HO.out.ge⟩
      · rw [HS.out]; simp
      · rw [Nat.zero_add]
        refine ho.cell j _ ?_
        rw [HE.out]
        rw [HS.out] at hp
        have : (D ++ [(s.drop b).take (t.size - b)]).map txP = D.map txP ++ [txP ((s.drop b).take (t.size - b))] := by simp
        rw [← this, List.getElem?_map, hp]; rfl
end Go.Proofs.YtdhpaglcggeknaaGreatDoor
namespace Go.Proofs.YtdhpaglcggeknaaGreatDoor
open Go.RowKit Go.Fl
/-- Samples read from texts, all or none. -/
def rdAll : List (List UInt8) → Option (List Nat)
  | [] => some []
  | p :: r => match rd p with
    | none => none
    | some n => match rdAll r with
      | none => none
      | some xs => some (n :: xs)
theorem rdAll_snoc (p : List UInt8) : ∀ l : List (List UInt8), rdAll (l ++ [p]) = match rdAll l with
    | none => none
    | some xs => match rd p with
      | none => none
      | some n => some (xs ++ [n])
  | [] => by
    show rdAll [p] = _
    unfold rdAll
    cases rd p <;> rfl
  | q :: l => by
    have ih := rdAll_snoc p l
    show rdAll (q :: (l ++ [p])) = _
    unfold rdAll
    rw [ih]
    cases rd q with
    | none => rfl
    | some n =>
      cases rdAll l with
      | none => rfl
      | some xs => cases rd p <;> rfl
theorem rdAll_bad {p : List UInt8} (hp : rd p = none) : ∀ l : List (List UInt8), p ∈ l → rdAll l = none
  | [], h => by cases h
  | q :: l, h => by
    unfold rdAll
    rcases List.mem_cons.1 h with rfl | h
    · rw [hp]
    · rw [rdAll_bad hp l h]
      cases rd q <;> rfl
theorem rdAll_take {ps : List (List UInt8)} {k : Nat} (h : k < ps.length) {xs : List Nat} {n : Nat} (h1 : rdAll (ps.take k) = some xs) (h2 : rd ps[k] = some n) : rdAll (ps.take (k + 1)) = some (xs ++ [n]) := by
  rw [List.take_succ_eq_append_getElem h, rdAll_snoc, h1, h2]
theorem rdAll_length : ∀ {l : List (List UInt8)} {xs : List Nat}, rdAll l = some xs → xs.length = l.length
  | [], xs, h => by cases h; rfl
  | p :: l, xs, h => by
    unfold rdAll at h
    cases hp : rd p with
    | none => rw [hp] at h; cases h
    | some n =>
      rw [hp] at h
      cases hl : rdAll l with
      | none => rw [hl] at h; cases h
      | some ys =>
        rw [hl] at h
        cases h
        simp [rdAll_length hl]
theorem rdAll_lt : ∀ {l : List (List UInt8)} {xs : List Nat}, rdAll l = some xs → ∀ v ∈ xs, v < 4294967296
  | [], xs, h, v, hv => by cases h; cases hv
  | p :: l, xs, h, v, hv => by
    unfold rdAll at h
    cases hp : rd p with
    | none => rw [hp] at h; cases h
    | some n =>
      rw [hp] at h
      cases hl : rdAll l with
      | none => rw [hl] at h; cases h
      | some ys =>
        rw [hl] at h
        cases h
        rcases List.mem_cons.1 hv with rfl | hv
        · exact (rd_some hp).1
        · exact rdAll_lt hl v hv
/-- What the program's reader of many hands back. -/
def RsR (ps : List (List UInt8)) (w w' : World) (e : Ending) : Prop := (∃ xs A c, rdAll ps = some xs ∧ e = .returned (.tuple #[.slice A ps.length c, .bool true]) ∧ Own w' w.heap.size A c xs 25) ∨ (rdAll ps = none ∧ e = .returned (.tuple #[.slice none 0 0, .bool false]))
theorem info_f32e2 : (Tryz.prog.info? 25).map (fun i => (i.zero, i.size, i.bytes)) = some (some (.float .f32 0), 1, 4) := by kernel_rfl
set_option maxRecDepth 20000 in
set_option maxHeartbeats 4000000 in
theorem c_readSamples (g o n c : Nat) (ps : List (List UInt8)) (w : World) (hps : Prt w g o ps) (hn : ps.length = n) (hl : n ≤ 1048577) (hsm : ∀ p ∈ ps, p.length ≤ 1073741824) (hT : Tz w) (hE : Ev w) :
    Calls Tryz.prog 19 #[.slice (some ⟨g, o, none⟩) n c] w fun e w' => RsR ps w w' e ∧ Below w.heap.size w w' := by
  have HP := Lib.hid hps; have HN := Lib.hid hn; have HS := Lib.hid hsm; have HT := Lib.hid hT; have HE := Lib.hid hE; have HL := Lib.hid hl
  have hn0 : (0 : Int) ≤ n := by omega
  have hn1 : (n : Int) ≤ 1048577 := by omega
  clear hps hn hsm hT hE hl
  go_enter Tryz.func19, Tryz.ntmps19
  go_wp2
  go_loopw [4, 11] (fun v i wr => ∃ (k : Nat) (xs : List Nat) (A : Option Addr) (d : Nat), k ≤ n ∧ i = .int .i64 k ∧ v = .slice A k d ∧ Hid (rdAll (ps.take k) = some xs) ∧ Hid (xs.length = k) ∧ Own wr w.heap.size A d xs 25 ∧ Below w.heap.size w wr) (fun _ i _ => n - (intOf i).toNat)
  case atStart => exact ⟨0, [], none, 0, by omega, rfl, rfl, rfl, rfl, ⟨by simp [maxLen], .inl ⟨rfl, rfl, rfl⟩⟩, Below.refl _ _⟩
  case round =>
    obtain ⟨k, xs, A, d, hk, rfl, rfl, HX, HXL, ho, hb⟩ := hrel
    have HO := Lib.hid ho; have HB := Lib.hid hb; clear ho hb
    have hk0 : (0 : Int) ≤ k := by omega
    by_cases hlt : k < n
    · have hkp : k < ps.length := by rw [HN.out]; exact hlt
      have hc : wr.cell? ⟨g, o + k, none⟩ = some (.string (bs ps[k])) := (HP.out.on HB.out).2 k _ (List.getElem?_eq_getElem hkp)
      have CR := Lib.hid (c_readBits ps[k] (HS.out _ (List.getElem_mem hkp)) wr (HT.out.on HB.out) (HE.out.on HB.out))
      have hmem : ps[k] ∈ ps := List.getElem_mem hkp
      have hstep : ∀ m, rd ps[k] = some m → rdAll (ps.take (k + 1)) = some (xs ++ [m]) := fun m hm => rdAll_take hkp HX.out hm
      have hbad : rd ps[k] = none → rdAll ps = none := fun h => rdAll_bad h ps hmem
      have HST := Lib.hid hstep; have HBD := Lib.hid hbad
      clear hstep hbad hmem
      generalize ps[k] = p at *
      have hi2 : (k : Int) < n := by omega
      go_wp2_with fail
      refine CR.out.mono ?_; rintro e w1 ⟨hr, b⟩
      replace HO := Lib.hid (HO.out.below b (Nat.le_refl _)); replace HB := Lib.hid (seq_below HB.out b); clear b
      have HSZ := Lib.hid HB.out.size
      rcases hr with ⟨m, hm, rfl⟩ | ⟨hm, v, rfl⟩
      · have HM := Lib.hid (HST.out m hm); clear hm
        go_wp2_with (at_builtin; refine wpList_append_one rfl _ _ 22 rfl w.heap.size 25 Tryz.underlying22 info_f32e2 HXL.out rfl HO.out rfl (by have := HL.out; omega) HSZ.out ?_; intro A2 c2 w2 ho2' hg2' _; have HO2 := Lib.hid ho2'; have HG2 := Lib.hid hg2'; clear ho2' hg2')
        go_roundw
        case rel => exact ⟨k + 1, xs ++ [m], A2, c2, by omega, by go_num, rfl, HM.out, by have := HXL.out; simp [Hid, this], HO2.out, HB.out.grown HG2.out HSZ.out HO.out.ge⟩
        case measure => simp [intOf]; omega
      · have HM := Lib.hid (HBD.out hm); clear hm
        go_wp2_with fail
        go_ret2
        exact ⟨.inr ⟨HM.out, rfl⟩, HB.out⟩
    · have e : k = n := by omega
      subst e
      have HM := Lib.hid (show rdAll ps = some xs from by
        have := HX.out
        rwa [List.take_of_length_le (by rw [HN.out]; exact Nat.le_refl _)] at this)
      go_wp2_with fail
      go_ret2
      exact ⟨.inl ⟨xs, A, d, HM.out, by rw [HN.out]; rfl, HO.out⟩, HB.out⟩
theorem spl_le (c : UInt8) : ∀ s : List UInt8, ∀ p ∈ spl c s, p.length ≤ s.length
  | [], p, h => by
    simp [spl] at h; subst h; simp
  | b :: s, p, h => by
    have ih := spl_le c s
    unfold spl at h
    split at h
    · rcases List.mem_cons.1 h with rfl | h
      · simp
      · have := ih p h; simp; omega
    · split at h
      · simp at h; subst h; simp
      · rename_i q qs heq
        rcases List.mem_cons.1 h with rfl | h
        · have := ih q (by rw [heq]; simp); simp; omega
        · have := ih p (by rw [heq]; simp [h]); simp; omega
theorem spl_count (c : UInt8) : ∀ s : List UInt8, (spl c s).length ≤ s.length + 1
  | [] => by simp [spl]
  | b :: s => by
    have ih := spl_count c s
    unfold spl
    split
    · simp; omega
    · split
      · simp
      · rename_i q qs heq
        rw [heq] at ih; simp at ih ⊢; omega
end Go.Proofs.YtdhpaglcggeknaaGreatDoor
namespace Go.Fl
open Go.RowKit
/-- The number of decimal digits. -/
def numD : Nat → List UInt8 → Option Nat
  | acc, [] => some acc
  | acc, c :: r => if 48 ≤ c.toNat ∧ c.toNat ≤ 57 then numD (acc * 10 + (c.toNat - 48)) r else none
/-- A number as the reference takes it. -/
def numS (p : List UInt8) : Option Nat := if (1 ≤ p.length ∧ p.length ≤ 9) ∧ ¬ (p.head? = some 48 ∧ 1 < p.length) then numD 0 p else none
theorem numD_snoc : ∀ (p : List UInt8) (acc : Nat) (c : UInt8), numD acc (p ++ [c]) = (numD acc p).bind fun n => if 48 ≤ c.toNat ∧ c.toNat ≤ 57 then some (n * 10 + (c.toNat - 48)) else none
  | [], acc, c => by
    show numD acc [c] = _
    unfold numD
    split <;> rfl
  | b :: p, acc, c => by
    show numD acc (b :: (p ++ [c])) = _
    unfold numD
    split
    · exact numD_snoc p _ c
    · rfl
theorem numD_ge : ∀ (p : List UInt8) (acc n : Nat), numD acc p = some n → acc ≤ n
  | [], acc, n, h => by cases h; exact Nat.le_refl _
  | c :: p, acc, n, h => by
    unfold numD at h
    split at h
    · have := numD_ge p _ n h; omega
    · cases h
theorem numD_dec (p : List UInt8) : ∀ (m : Nat), p.length = m → 1 ≤ m → p.head? ≠ some 48 ∨ m = 1 → ∀ n, numD 0 p = some n → p = Lib.decDigits n := by
  intro m
  induction m generalizing p with
  | zero => intro _ h1; omega
  | succ m ih =>
    intro hl h1 h0 n hn
    have hne : p ≠ [] := by intro e; subst e; simp at hl
    obtain ⟨q, c, rfl⟩ : ∃ q c, p = q ++ [c] := ⟨p.dropLast, p.getLast hne, (List.dropLast_concat_getLast hne).symm⟩
    have hq : q.length = m := by simpa using hl
    rw [numD_snoc] at hn
    cases hd : numD 0 q with
    | none => rw [hd] at hn; cases hn
    | some v =>
      rw [hd] at hn
      simp only [Option.bind_some] at hn
      split at hn
      · rename_i hc
        have e : v * 10 + (c.toNat - 48) = n := Option.some.inj hn
        have hdg : ∀ x : Nat, x = c.toNat - 48 → UInt8.ofNat (48 + x) = c := fun x hx => by
          rw [hx, show 48 + (c.toNat - 48) = c.toNat from by omega]; simp
        by_cases hm : m = 0
        · have hq0 : q = [] := List.length_eq_zero_iff.1 (by omega)
          subst hq0
          have hv : v = 0 := by simp [numD] at hd; exact hd.symm
          subst hv
          rw [Lib.decDigits, dif_pos (by omega)]
          rw [hdg n (by omega)]; rfl
        · have hq1 : q.head? ≠ some 48 := by
            rcases h0 with h0 | h0
            · intro e2; apply h0
              match q, e2 with
              | b :: q, e2 => simpa using e2
            · omega
          have hr := ih q hq (by omega) (.inl hq1) v hd
          have hv1 : 1 ≤ v := by
            match q, hq1, hd with
            | [], _, _ => simp at hq; omega
            | b :: q, hq1, hd =>
              unfold numD at hd
              split at hd
              · rename_i hb
                have := numD_ge q _ v hd
                have hb2 : b.toNat ≠ 48 := fun e3 => hq1 (by
                  have : b = 48 := UInt8.toNat_inj.1 e3
                  subst this; rfl)
                omega
              · cases hd
          rw [Lib.decDigits, dif_neg (by omega)]
          rw [show n / 10 = v from by omega, show n % 10 = c.toNat - 48 from by omega, hdg _ rfl, ← hr]
      · cases hn
theorem numS_dec {p : List UInt8} {n : Nat} (h : numS p = some n) : p = Lib.decDigits n := by
  unfold numS at h
  split at h
  · rename_i hc
    refine numD_dec p p.length rfl hc.1.1 ?_ n h
    by_cases e : p.head? = some 48
    · have := hc.2; right
      have h2 : ¬ 1 < p.length := fun h3 => this ⟨e, h3⟩
      have := hc.1.1; omega
    · exact .inl e
  · cases h
end Go.Fl
namespace Go.Proofs.YtdhpaglcggeknaaGreatDoor
open Go.RowKit Go.Fl
def NuR (p : List UInt8) (e : Ending) : Prop := (∃ n : Nat, numS p = some n ∧ e = .returned (.tuple #[.int .i64 n, .bool true])) ∨ (numS p = none ∧ e = .returned (.tuple #[.int .i64 0, .bool false]))
theorem c_l01Number_no (p : List UInt8) (h : ¬ (1 ≤ p.length ∧ p.length ≤ 9)) (w : World) :
    Calls Tryz.prog 11 #[.string (bs p)] w fun e w' => NuR p e ∧ Below w.heap.size w w' := by
  have HR := Lib.hid (show numS p = none from if_neg (fun h2 => h h2.1))
  have hsz : (bs p).size = p.length := bs_size p
  obtain ⟨t, ht⟩ : ∃ t, t = bs p := ⟨_, rfl⟩
  rw [← ht] at hsz ⊢
  clear ht
  by_cases h1 : p.length < 1
  · have i1 : (t.size : Int) < 1 := by omega
    clear h hsz h1
    go_enter Tryz.func11, Tryz.ntmps11
    go_wp2
    go_ret2
    exact ⟨.inr ⟨HR.out, rfl⟩, Below.refl _ _⟩
  · have i1 : (9 : Int) < (t.size : Int) := by omega
    clear h hsz h1
    go_enter Tryz.func11, Tryz.ntmps11
    go_wp2
    go_ret2
    exact ⟨.inr ⟨HR.out, rfl⟩, Below.refl _ _⟩
set_option maxHeartbeats 4000000 in
set_option maxRecDepth 100000 in
theorem c_l01Number_in (p : List UInt8) (h1 : 1 ≤ p.length) (h9 : p.length ≤ 9) (w : World) :
    Calls Tryz.prog 11 #[.string (bs p)] w fun e w' => NuR p e ∧ Below w.heap.size w w' := by
  have hsz : (bs p).size = p.length := bs_size p
  have hR : numS p = if ¬ (p.head? = some 48 ∧ 1 < p.length) then numD 0 p else none := by
    unfold numS
    by_cases h : p.head? = some 48 ∧ 1 < p.length
    · rw [if_neg (fun h2 => h2.2 h), if_neg (fun h2 => h2 h)]
    · rw [if_pos ⟨⟨h1, h9⟩, h⟩, if_pos h]
  obtain ⟨t, ht⟩ : ∃ t, t = bs p := ⟨_, rfl⟩
  have hget : ∀ k (h : k < t.size) (hj : k < p.length), t[k]'h = p[k]'hj := by
    subst ht
    intro k h hj
    show (bs p).data[k]'h = _
    simp [bs]
  rw [← ht] at hsz ⊢
  have h0t : 0 < t.size := by omega
  have hz0 := hget 0 h0t (by omega)
  have hhd : p.head? = some p[0] := by rw [List.head?_eq_getElem?]; exact List.getElem?_eq_getElem (by omega)
  have i0 : ¬ ((t.size : Int) < 1) := by omega
  have i9 : (t.size : Int) ≤ 9 := by omega
  have HSZ := Lib.hid hsz; have HG := Lib.hid hget
  by_cases hbad : p.head? = some 48 ∧ 1 < p.length
  · have HN := Lib.hid (hR.trans (if_neg (fun h2 => h2 hbad)))
    have hz : ((t[0]'h0t).toNat : Int) = 48 := by
      rw [hz0]
      have := hbad.1; rw [hhd] at this
      rw [Option.some.inj this]; rfl
    have i1 : (1 : Int) < (t.size : Int) := by have := hbad.2; omega
    clear hR hget hz0 hhd hbad ht hsz
    go_enter Tryz.func11, Tryz.ntmps11
    go_wp2
    go_ret2
    exact ⟨.inr ⟨HN.out, rfl⟩, Below.refl _ _⟩
  · have HN := Lib.hid (hR.trans (if_pos hbad))
    have hz : ¬ ((t[0]'h0t).toNat : Int) = 48 ∨ (((t[0]'h0t).toNat : Int) = 48 ∧ ¬ (1 : Int) < (t.size : Int)) := by
      by_cases e2 : ((t[0]'h0t).toNat : Int) = 48
      · refine .inr ⟨e2, fun e => ?_⟩
        rw [hz0] at e2
        exact hbad ⟨by rw [hhd]; congr 1; exact UInt8.toNat_inj.1 (by show p[0].toNat = 48; omega), by omega⟩
      · exact .inl e2
    clear hR hget hz0 hhd hbad ht hsz
    have LOOP : True := trivial
    rcases hz with hz | ⟨hz, hz2⟩
    all_goals
      go_enter Tryz.func11, Tryz.ntmps11
      go_wp2
      go_loop [4, 5] (fun vn vi => ∃ (k acc : Nat) (a : Int), vn = .int .i64 a ∧ vi = .int .i64 k ∧ k ≤ t.size ∧ Hid (a = (acc : Int) ∧ acc < 10 ^ k ∧ numD 0 p = numD acc (p.drop k)))
        (fun _ vi => t.size - (intOf vi).toNat)
      case atStart => exact ⟨0, 0, 0, rfl, rfl, by omega, rfl, by decide, rfl⟩
      case round =>
        obtain ⟨k, acc, a, rfl, rfl, hk, hh⟩ := hrel
        obtain ⟨ha, hacc, hdec⟩ := hh.out
        clear hh hz
        try clear hz2
        have hk0 : (0 : Int) ≤ k := by omega
        by_cases hkn : k < t.size
        · have h7 : acc < 100000000 := Nat.lt_of_lt_of_le hacc (by
            have : (10 : Nat) ^ k ≤ 10 ^ 8 := Nat.pow_le_pow_right (by decide) (by omega)
            exact this)
          have hacc0 : 0 ≤ a := by omega
          have hacc1 : a ≤ 99999999 := by omega
          have hkp : k < p.length := by have := HSZ.out; omega
          have hdrop : p.drop k = p[k] :: p.drop (k + 1) := List.drop_eq_getElem_cons hkp
          have hc := HG.out k hkn hkp
          rw [hdrop] at hdec
          generalize p[k] = c at hc hdec
          have hkn2 : (k : Int) < t.size := by omega
          have hstep : ∀ d, d < 10 → acc * 10 + d < 10 ^ (k + 1) := fun d hd => by rw [Nat.pow_succ]; omega
          have hu : numD acc (c :: p.drop (k + 1)) = if 48 ≤ c.toNat ∧ c.toNat ≤ 57 then numD (acc * 10 + (c.toNat - 48)) (p.drop (k + 1)) else none := rfl
          rw [hu] at hdec
          clear hdrop hu
          have hcz : (t[k]'hkn).toNat = c.toNat := by rw [hc]
          have hzz : c.toNat < 256 := c.toNat_lt
          clear hc
          generalize c.toNat = z at *
          by_cases hdig : 48 ≤ z ∧ z ≤ 57
          · rw [if_pos hdig] at hdec
            obtain ⟨hd0, hd1⟩ := hdig
            have j0 : ¬ ((z : Int) < 48) := by omega
            have j1 : (z : Int) ≤ 57 := by omega
            have HR := Lib.hid (show a * 10 + ((z : Int) - 48) = ((acc * 10 + (z - 48) : Nat) : Int) ∧ acc * 10 + (z - 48) < 10 ^ (k + 1) ∧ numD 0 p = numD (acc * 10 + (z - 48)) (p.drop (k + 1)) from ⟨by omega, hstep _ (by omega), hdec⟩)
            clear hdec hzz hacc ha hstep h7
            go_wp2
            refine ⟨⟨k + 1, acc * 10 + (z - 48), a * 10 + ((z : Int) - 48), (by first | rfl | (congr 1; omega)), (by first | rfl | (congr 1; omega)), by omega, HR⟩, by simp [intOf]; omega⟩
          · rw [if_neg hdig] at hdec
            have HE := Lib.hid (HN.out.trans hdec)
            clear hdec hzz hacc ha hstep h7
            go_wp2
            all_goals go_ret2
            all_goals exact ⟨.inr ⟨HE.out, rfl⟩, Below.refl _ _⟩
        · have hkk : k = t.size := by omega
          have HE := Lib.hid (show numS p = some acc from by
            rw [HN.out, hdec, List.drop_eq_nil_of_le (by have := HSZ.out; omega)]; rfl)
          subst ha
          clear hdec hacc
          subst hkk
          go_wp2
          go_ret2
          exact ⟨.inl ⟨acc, HE.out, rfl⟩, Below.refl _ _⟩
theorem c_l01Number (p : List UInt8) (w : World) :
    Calls Tryz.prog 11 #[.string (bs p)] w fun e w' => NuR p e ∧ Below w.heap.size w w' := by
  by_cases h : 1 ≤ p.length ∧ p.length ≤ 9
  · exact c_l01Number_in p h.1 h.2 w
  · exact c_l01Number_no p h w
end Go.Proofs.YtdhpaglcggeknaaGreatDoor
namespace Go.Fl
open Go.RowKit
theorem join_spl (c : UInt8) : ∀ s : List UInt8, Lib.join (spl c s) [c] = s
  | [] => by simp [spl, Lib.join_one]
  | b :: s => by
    have ih := join_spl c s
    unfold spl
    by_cases hb : b = c
    · rw [if_pos hb]
      subst hb
      rw [Lib.join_cons]
      cases hs : spl b s with
      | nil =>
        exfalso
        have h1 : 1 ≤ (spl b s).length := by
          cases s with
          | nil => simp [spl]
          | cons x s =>
            unfold spl
            split
            · simp
            · split <;> simp
        rw [hs] at h1; simp at h1
      | cons p ps =>
        rw [hs, Lib.join_cons] at ih
        simp [Lib.joinTail] at ih ⊢
        exact ih
    · rw [if_neg hb]
      cases hs : spl c s with
      | nil =>
        rw [hs] at ih
        simp [Lib.join_nil] at ih
        subst ih
        simp [Lib.join_one]
      | cons p ps =>
        rw [hs, Lib.join_cons] at ih
        simp only [Lib.join_cons, List.cons_append]
        rw [ih]
theorem spl_join (c : UInt8) : ∀ (p : List UInt8) (ps : List (List UInt8)), c ∉ p → (∀ q ∈ ps, c ∉ q) → spl c (Lib.join (p :: ps) [c]) = p :: ps
  | p, [], h, _ => by rw [Lib.join_one, spl_miss c p h]
  | p, q :: ps, h, hq => by
    have ih := spl_join c q ps (hq q (by simp)) (fun r hr => hq r (by simp [hr]))
    rw [Lib.join_cons] at ih ⊢
    have e : Lib.joinTail [c] (q :: ps) = c :: (q ++ Lib.joinTail [c] ps) := by simp [Lib.joinTail]
    rw [e, spl_hit c p _ h, ih]
theorem hexC_ne (d : Nat) (h : d < 16) : hexC d ≠ 32 := by
  have : ∀ d : Fin 16, hexC d.val ≠ 32 := by decide
  exact this ⟨d, h⟩
theorem hexL_ne : ∀ (k n : Nat), (32 : UInt8) ∉ hexL k n
  | 0, _ => by simp [hexL]
  | k + 1, n => by
    unfold hexL
    intro h
    rcases List.mem_append.1 h with h | h
    · exact hexL_ne k _ h
    · exact hexC_ne _ (Nat.mod_lt _ (by decide)) (List.mem_singleton.1 h).symm
end Go.Fl
namespace Go.Proofs.YtdhpaglcggeknaaGreatDoor
open Go.RowKit Go.Fl
def fltN : List UInt8 := [102, 105, 108, 116, 101, 114]
theorem filX_join (n c0 c1 c2 s0 s1 : Nat) : filX n c0 c1 c2 s0 s1 = Lib.join [fltN, Lib.decDigits n, hexT8 c0, hexT8 c1, hexT8 c2, hexT8 s0, hexT8 s1] [32] := by
  unfold filX smT
  simp [Lib.join_cons, Lib.joinTail, fltW, fltN]
theorem dec_five {n : Nat} (h : n ≤ 5) : (32 : UInt8) ∉ Lib.decDigits n ∧ numS (Lib.decDigits n) = some n ∧ Lib.parseIntB 64 (Lib.decDigits n) = .ok (n : Int) := by
  rcases (by omega : n = 0 ∨ n = 1 ∨ n = 2 ∨ n = 3 ∨ n = 4 ∨ n = 5) with rfl | rfl | rfl | rfl | rfl | rfl <;>
    · rw [decDigits_small (by decide)]
      refine ⟨by decide, by decide, by decide⟩
/-- A filter, read. -/
def rfP (s : List UInt8) : Option Fil := match spl 32 s with
  | [p0, p1, p2, p3, p4, p5, p6] => if p0 = fltN then (match numS p1, rdAll [p2, p3, p4, p5, p6] with
      | some k, some [a, b, c, d, e] => if okF k [a, b, c] [d, e] = true then some ⟨k, a, b, c, d, e⟩ else none
      | _, _ => none) else none
  | _ => none
theorem rdAll_five {p2 p3 p4 p5 p6 : List UInt8} {a b c d e : Nat} (h : rdAll [p2, p3, p4, p5, p6] = some [a, b, c, d, e]) : rd p2 = some a ∧ rd p3 = some b ∧ rd p4 = some c ∧ rd p5 = some d ∧ rd p6 = some e := by
  unfold rdAll at h
  cases h2 : rd p2 with
  | none => rw [h2] at h; cases h
  | some x2 =>
  rw [h2] at h
  unfold rdAll at h
  cases h3 : rd p3 with
  | none => rw [h3] at h; cases h
  | some x3 =>
  rw [h3] at h
  unfold rdAll at h
  cases h4 : rd p4 with
  | none => rw [h4] at h; cases h
  | some x4 =>
  rw [h4] at h
  unfold rdAll at h
  cases h5 : rd p5 with
  | none => rw [h5] at h; cases h
  | some x5 =>
  rw [h5] at h
  unfold rdAll at h
  cases h6 : rd p6 with
  | none => rw [h6] at h; cases h
  | some x6 =>
  rw [h6] at h
  cases h
  exact ⟨rfl, rfl, rfl, rfl, rfl⟩
theorem rfP_yes {s : List UInt8} {F : Fil} (h : rfP s = some F) : ∃ p1 p2 p3 p4 p5 p6, spl 32 s = [fltN, p1, p2, p3, p4, p5, p6] ∧ (∃ n : Nat, F.k = n ∧ numS p1 = some n) ∧ Lib.parseIntB 64 p1 = .ok F.k ∧ rdAll [p2, p3, p4, p5, p6] = some [F.c0, F.c1, F.c2, F.s0, F.s1] ∧ okF F.k [F.c0, F.c1, F.c2] [F.s0, F.s1] = true ∧ filTV F.k F.c0 F.c1 F.c2 F.s0 F.s1 = s := by
  unfold rfP at h
  split at h
  · rename_i p0 p1 p2 p3 p4 p5 p6 hs
    split at h
    · rename_i h0
      split at h
      · rename_i k a b c d e hk hr
        split at h
        · rename_i hok
          cases h
          obtain ⟨n, hn, hkn⟩ := okF_five hok
          have hkn : k = n := by omega
          subst hkn
          have hd := numS_dec hk
          obtain ⟨h2, h3, h4, h5, h6⟩ := rdAll_five hr
          subst h0
          refine ⟨p1, p2, p3, p4, p5, p6, hs, ⟨k, rfl, hk⟩, by rw [hd]; exact (dec_five hn).2.2, hr, hok, ?_⟩
          rw [filTV_yes hok]
          have e1 : ((k : Int)).toNat = k := rfl
          show filX ((k : Int)).toNat a b c d e = s
          rw [e1, filX_join, ← hd, rd_text h2, rd_text h3, rd_text h4, rd_text h5, rd_text h6, ← hs]
          exact join_spl 32 s
        · cases h
      · cases h
    · cases h
  · cases h
theorem rfP_of {s p0 p1 p2 p3 p4 p5 p6 : List UInt8} {v : Int} {a b c d e : Nat} (hs : spl 32 s = [p0, p1, p2, p3, p4, p5, p6]) (hp : Lib.parseIntB 64 p1 = .ok v) (hr : rdAll [p2, p3, p4, p5, p6] = some [a, b, c, d, e]) (ht : filTV v a b c d e = s) : rfP s = some ⟨v, a, b, c, d, e⟩ := by
  cases hok : okF v [a, b, c] [d, e]
  · rw [filTV_no hok] at ht
    subst ht
    simp [spl] at hs
  · rw [filTV_yes hok] at ht
    obtain ⟨n, hn, rfl⟩ := okF_five hok
    have e1 : ((n : Int)).toNat = n := rfl
    rw [e1, filX_join] at ht
    have h5 := dec_five hn
    have hsp := spl_join 32 fltN [Lib.decDigits n, hexT8 a, hexT8 b, hexT8 c, hexT8 d, hexT8 e] (by decide) (by
      intro q hq
      simp only [List.mem_cons, List.mem_nil_iff, or_false] at hq
      rcases hq with rfl | rfl | rfl | rfl | rfl | rfl
      · exact h5.1
      all_goals exact hexL_ne _ _)
    rw [ht, hs] at hsp
    simp only [List.cons.injEq, and_true] at hsp
    obtain ⟨g0, g1, _⟩ := hsp
    unfold rfP
    rw [hs]
    show (if p0 = fltN then _ else none) = _
    rw [if_pos g0, g1, h5.2.1, hr]
    show (if okF (n : Int) [a, b, c] [d, e] = true then _ else none) = _
    rw [if_pos hok]
theorem rfP_len {s : List UInt8} (h : (spl 32 s).length ≠ 7) : rfP s = none := by
  cases hr : rfP s with
  | none => rfl
  | some F =>
    obtain ⟨p1, p2, p3, p4, p5, p6, hs, _⟩ := rfP_yes hr
    rw [hs] at h; exact absurd rfl h
/-- What ParseInt hands back. -/
def PiR (p : List UInt8) (e : Ending) : Prop := (∃ v, Lib.parseIntB 64 p = .ok v ∧ e = .returned (.tuple #[.int .i64 v, .nilIface])) ∨ ((∀ v, Lib.parseIntB 64 p ≠ .ok v) ∧ ∃ (v : Int) (N : Nat), e = .returned (.tuple #[.int .i64 v, .iface 106 (.pointer (some ⟨N, 0, none⟩))]))
theorem c_parseInt (p : List UInt8) (hmax : p.length ≤ 1073741824) (w : World) (hE : Ev w) :
    Calls Tryz.prog 34 #[.string (bs p), .int .i64 10, .int .i64 64] w fun e w' => PiR p e ∧ Below w.heap.size w w' := by
  have hd := bs_data p
  have hsz : (bs p).size ≤ 281474976710656 := by rw [bs_size]; omega
  cases hr : Lib.parseIntB 64 p with
  | ok v =>
    refine (Tryz.strconv_ParseInt_10_at64_ok (bs p) (by omega) v (by rw [hd]; exact hr) w).mono fun e w' ⟨he, hw⟩ => ⟨.inl ⟨v, hr, he⟩, ?_⟩
    rcases hw with rfl | ⟨t, rfl⟩
    · exact Below.refl _ _
    · exact Go.Joins.below_bytesWorld _ _ _ _ (Nat.le_refl _)
  | «syntax» =>
    obtain ⟨ev, h1, h2⟩ := hE.syn
    refine (Tryz.strconv_ParseInt_10_at64_syntax (bs p) hsz (by rw [hd]; exact hr) ev w h1 h2).mono fun e w' ⟨N, he, _, _, hw⟩ => ⟨.inr ⟨(fun v hv => by rw [hr] at hv; cases hv), _, N, he⟩, hw⟩
  | range =>
    obtain ⟨ev, h1, h2⟩ := hE.rng
    refine (Tryz.strconv_ParseInt_10_at64_range (bs p) hsz (by rw [hd]; exact hr) ev w h1 h2).mono fun e w' ⟨N, he, _, _, hw⟩ => ⟨.inr ⟨(fun v hv => by rw [hr] at hv; cases hv), _, N, he⟩, hw⟩
end Go.Proofs.YtdhpaglcggeknaaGreatDoor
