/- The readers of samples, in the program and in the reference. No condition. -/
import Derived.Test.YtdhpaglcggeknaaDoorRa
namespace Go.Fl
open Go.RowKit
theorem bs_toList (a : List UInt8) : (bs a).toList = a := by rw [ByteArray.toList_eq]; simp [bs]
theorem bs_beq (a b : List UInt8) : ((bs a).toList == (bs b).toList) = decide (a = b) := by
  rw [bs_toList, bs_toList]
  by_cases h : a = b
  · subst h; simp
  · rw [decide_eq_false h]; simpa using h
end Go.Fl
namespace Go.Proofs.YtdhpaglcggeknaaDoor
open Go.RowKit Go.Fl
/-- The library's two error values are as they were laid. -/
def Ev (w : World) : Prop := (∃ tp p, w.var? Tryd.prog "strconv.ErrSyntax" = some #[.iface tp p]) ∧ (∃ tp p, w.var? Tryd.prog "strconv.ErrRange" = some #[.iface tp p])
theorem Ev.on {w w' : World} (h : Ev w) (hb : Below w.heap.size w w') : Ev w' := by
  obtain ⟨⟨t1, p1, h1⟩, ⟨t2, p2, h2⟩⟩ := h
  exact ⟨⟨t1, p1, Go.Joins.var_stays (show Tryd.prog.globalNamed "strconv.ErrSyntax" = some 2 by kernel_rfl) h1 hb (Nat.le_refl _)⟩, ⟨t2, p2, Go.Joins.var_stays (show Tryd.prog.globalNamed "strconv.ErrRange" = some 3 by kernel_rfl) h2 hb (Nat.le_refl _)⟩⟩
theorem Ev.syn {w : World} (h : Ev w) : ∃ ev, w.cell? ⟨2, 0, none⟩ = some ev ∧ (ev = .nilIface ∨ ∃ te pe, ev = .iface te pe) := by
  obtain ⟨⟨t1, p1, h1⟩, _⟩ := h
  exact ⟨_, by have h0 := World.var?_cell (show Tryd.prog.globalNamed "strconv.ErrSyntax" = some 2 by kernel_rfl) h1 0; simpa using h0, .inr ⟨t1, p1, rfl⟩⟩
theorem Ev.rng {w : World} (h : Ev w) : ∃ ev, w.cell? ⟨3, 0, none⟩ = some ev ∧ (ev = .nilIface ∨ ∃ te pe, ev = .iface te pe) := by
  obtain ⟨_, ⟨t1, p1, h1⟩⟩ := h
  exact ⟨_, by have h0 := World.var?_cell (show Tryd.prog.globalNamed "strconv.ErrRange" = some 3 by kernel_rfl) h1 0; simpa using h0, .inr ⟨t1, p1, rfl⟩⟩
/-- What the public reader of numbers hands back. -/
def PuC (s : List UInt8) (e : Ending) : Prop := (∃ n, s ≠ [] ∧ puL 0 s = some n ∧ e = .returned (.tuple #[.int .u64 (n : Nat), .nilIface])) ∨ ((s = [] ∨ puL 0 s = none) ∧ ∃ (v : Int) (N : Nat), e = .returned (.tuple #[.int .u64 v, .iface 137 (.pointer (some ⟨N, 0, none⟩))]))
set_option maxRecDepth 100000 in
set_option maxHeartbeats 2000000 in
theorem c_kParseUint_nil (w : World) : Calls Tryd.prog 94 #[.string (bs []), .int .i64 16, .int .i64 32] w fun e w' => PuR [] e ∧ Below w.heap.size w w' := by
  show Calls Tryd.prog 94 #[.string ⟨#[]⟩, .int .i64 16, .int .i64 32] w fun e w' => PuR [] e ∧ Below w.heap.size w w'
  go_enter Tryd.func94, Tryd.ntmps94
  go_wp2
  go_ret2
  exact ⟨.inr ⟨.inl rfl, _, _, .inr rfl, rfl⟩, Below.refl _ _⟩
theorem c_kParseUintA (s : List UInt8) (hmax : s.length ≤ 1073741824) (w : World) :
    Calls Tryd.prog 94 #[.string (bs s), .int .i64 16, .int .i64 32] w fun e w' => PuR s e ∧ Below w.heap.size w w' := by
  by_cases h : s = []
  · subst h; exact c_kParseUint_nil w
  · exact c_kParseUint s h hmax w
set_option maxRecDepth 20000 in
set_option maxHeartbeats 2000000 in
theorem c_cParseUint (s : List UInt8) (hmax : s.length ≤ 1073741824) (w : World) (hE : Ev w) :
    Calls Tryd.prog 93 #[.string (bs s), .int .i64 16, .int .i64 32] w fun e w' => PuC s e ∧ Below w.heap.size w w' := by
  have HK := Lib.hid (fun W => c_kParseUintA s hmax W)
  have HE := Lib.hid hE
  have hsz : (bs s).size ≤ 281474976710656 := by rw [bs_size]; omega
  clear hE hmax
  generalize bs s = t at *
  have HT : Hid (∀ (W : World) (ev : Value), W.cell? ⟨2, 0, none⟩ = some ev → (ev = .nilIface ∨ ∃ te pe, ev = .iface te pe) → _) := Lib.hid (fun W ev hv hev => Tryd.strconv_toError_syntax ⟨#[80, 97, 114, 115, 101, 85, 105, 110, 116]⟩ t 16 32 ev W hsz hv hev)
  have HR : Hid (∀ (W : World) (ev : Value), W.cell? ⟨3, 0, none⟩ = some ev → (ev = .nilIface ∨ ∃ te pe, ev = .iface te pe) → _) := Lib.hid (fun W ev hv hev => Tryd.strconv_toError_range ⟨#[80, 97, 114, 115, 101, 85, 105, 110, 116]⟩ t 16 32 ev W hsz hv hev)
  clear hsz
  go_enter Tryd.func93, Tryd.ntmps93
  go_wp2_with fail
  refine (HK.out _).mono ?_; rintro e w1 ⟨hp, b⟩
  rcases hp with ⟨n, hn, hp, rfl⟩ | ⟨hp, v, k, hk, rfl⟩
  · have HB := Lib.hid b; clear b
    go_wp2_with fail
    go_ret2
    exact ⟨.inl ⟨n, hn, hp, rfl⟩, HB.out⟩
  · have HB := Lib.hid b; have HE1 := Lib.hid (HE.out.on b); clear b
    rcases hk with rfl | rfl
    · obtain ⟨ev, h1, h2⟩ := HE1.out.rng
      have C := Lib.hid (HR.out w1 ev h1 h2); clear h1 h2
      go_wp2_with fail
      refine C.out.mono ?_; rintro e w2 ⟨N, rfl, _, _, b⟩
      have HZ := Lib.hid (seq_below HB.out b); clear b
      go_wp2_with fail
      go_ret2
      exact ⟨.inr ⟨hp, v, N, rfl⟩, HZ.out⟩
    · obtain ⟨ev, h1, h2⟩ := HE1.out.syn
      have C := Lib.hid (HT.out w1 ev h1 h2); clear h1 h2
      go_wp2_with fail
      refine C.out.mono ?_; rintro e w2 ⟨N, rfl, _, _, b⟩
      have HZ := Lib.hid (seq_below HB.out b); clear b
      go_wp2_with fail
      go_ret2
      exact ⟨.inr ⟨hp, v, N, rfl⟩, HZ.out⟩
/-- What a reader of a sample hands back. -/
def RdR (s : List UInt8) (e : Ending) : Prop := (∃ n, rd s = some n ∧ e = .returned (.tuple #[.float .f32 n, .bool true])) ∨ (rd s = none ∧ ∃ v, e = .returned (.tuple #[.float .f32 v, .bool false]))
set_option maxRecDepth 20000 in
set_option maxHeartbeats 2000000 in
theorem c_readBits (s : List UInt8) (hmax : s.length ≤ 1073741824) (w : World) (hT : Tz w) (hE : Ev w) :
    Calls Tryd.prog 72 #[.string (bs s)] w fun e w' => RdR s e ∧ Below w.heap.size w w' := by
  have HK := Lib.hid (c_cParseUint s hmax w hE)
  have HT := Lib.hid hT
  clear hT hE hmax
  go_enter Tryd.func72, Tryd.ntmps72
  go_wp2_with fail
  refine HK.out.mono ?_; rintro e w1 ⟨hp, b⟩
  have HB := Lib.hid b; have HT1 := Lib.hid (HT.out.on b); clear b
  rcases hp with ⟨n, hn, hp, rfl⟩ | ⟨hp, v, N, rfl⟩
  · have hlt := puL_lt s 0 n (by decide) hp
    have hd := rd_pu hp
    have CB := Lib.hid (fun W (h : Tz W) => c_bitsText n hlt W h)
    have HL := Lib.hid hlt
    have i0 : (0 : Int) ≤ n := by omega
    have i1 : (n : Int) ≤ 4294967295 := by omega
    have hR : RdR s (.returned (.tuple #[.float .f32 n, .bool ((bs (hexT8 n)).toList == (bs s).toList)])) := by
      rw [bs_beq]
      by_cases e : hexT8 n = s
      · have h1 : rd s = some n := by
          have := rd_hexT8 hlt
          rw [decide_eq_true e] at hd
          cases hr : rd s with
          | none => rw [hr] at hd; cases hd
          | some m =>
            have := puL_rd hr
            rw [hp] at this; exact this.symm
        exact .inl ⟨n, h1, by rw [decide_eq_true e]⟩
      · have h1 : rd s = none := by
          rw [decide_eq_false e] at hd
          cases hr : rd s with
          | none => rfl
          | some m => rw [hr] at hd; cases hd
        exact .inr ⟨h1, n, by rw [decide_eq_false e]⟩
    have HR := Lib.hid hR
    clear hR hd hlt hp hn
    go_wp2_with fail
    refine (CB.out _ HT1.out).mono ?_; rintro e w2 ⟨rfl, b⟩
    have HZ := Lib.hid (seq_below HB.out b); clear b
    go_wp2_with fail
    go_ret2
    exact ⟨HR.out, HZ.out⟩
  · have HR := Lib.hid (show rd s = none from by
      rcases hp with rfl | hp
      · rfl
      · exact rd_pu_none hp)
    clear hp
    go_wp2_with fail
    go_ret2
    exact ⟨.inr ⟨HR.out, 0, rfl⟩, HB.out⟩
end Go.Proofs.YtdhpaglcggeknaaDoor
