/- The law's own helpers over rings. No condition. -/
import Derived.Test.YtpchebclhjgcmaaSm
import Derived.Test.YtpchebclhjgcmaaFe
import Derived.BigQuiet
import Derived.Deep.QuietTactic
namespace Go.Proofs.Ytpchebclhjgcmaa
open Go.RowKit Go.Fl
theorem Row.free {w : World} {g : Nat} {cs : Array Value} {t : TypeId} (h : Row w g cs t) (k : Nat) : w.frozen? ⟨g, k, none⟩ = false := Go.Joins.unfrozen_of_block h k
theorem Row.set {w : World} {g : Nat} {cs : Array Value} {t : TypeId} (h : Row w g cs t) (k : Nat) (v : Value) : Row (w.setCell ⟨g, k, none⟩ v) g (cs.setIfInBounds k v) t := by
  unfold Row
  rw [Go.Joins.block_setCell h]
theorem Row.other {w : World} {g : Nat} {cs : Array Value} {t : TypeId} (h : Row w g cs t) {b off : Nat} (ha : g ≠ b) (v : Value) : Row (w.setCell ⟨b, off, none⟩ v) g cs t := by
  unfold Row
  rw [Below.heap_setCell _ _ _ _ ha]; exact h
theorem info_ring : (Try.prog.info? 34).map (·.size) = some 2 := by kernel_rfl
theorem c_toRing (A : Option Addr) (c : Nat) (xs : List Nat) (at0 : Int) (w : World) (hs : Sl w A xs) (hl : xs.length ≤ 4294967296) :
    Calls Try.prog 45 #[.agg #[.slice A xs.length c, .int .i64 at0]] w fun e w' => ∃ g, e = .returned (.agg #[.slice (some ⟨g, 0, none⟩) xs.length xs.length, .int .i64 at0]) ∧ Blk w' g xs 25 ∧ w.heap.size ≤ g ∧ Below w.heap.size w w' := by
  have q1 : Row (((w.alloc (.cells #[.slice A xs.length c, .int .i64 at0] 24)).alloc (.cells #[.slice none 0 0, .int .i64 0] 34)).alloc (.cells #[.slice none 0 0, .int .i64 0] 34)) w.heap.size #[.slice A xs.length c, .int .i64 at0] 24 := ((Row.new _ _ _ _ rfl).alloc _).alloc _
  have q2 : Row (((w.alloc (.cells #[.slice A xs.length c, .int .i64 at0] 24)).alloc (.cells #[.slice none 0 0, .int .i64 0] 34)).alloc (.cells #[.slice none 0 0, .int .i64 0] 34)) (w.heap.size + 1) #[.slice none 0 0, .int .i64 0] 34 := (Row.new _ _ _ _ (by simp)).alloc _
  have q3 : Row (((w.alloc (.cells #[.slice A xs.length c, .int .i64 at0] 24)).alloc (.cells #[.slice none 0 0, .int .i64 0] 34)).alloc (.cells #[.slice none 0 0, .int .i64 0] 34)) (w.heap.size + 1 + 1) #[.slice none 0 0, .int .i64 0] 34 := Row.new _ _ _ _ (by simp)
  have q4 := Go.Joins.below_alloc3 w (.cells #[.slice A xs.length c, .int .i64 at0] 24) (.cells #[.slice none 0 0, .int .i64 0] 34) (.cells #[.slice none 0 0, .int .i64 0] 34)
  have HS := Lib.hid (hs.below q4); have HL := Lib.hid hl; clear hs hl
  go_enter Try.func45, Try.ntmps45
  go_wp2_with fail
  refine (c_toFloat32S _ _ _ _ HS.out HL.out).mono ?_
  rintro e w1 ⟨g, rfl, hg, hge, b1⟩
  clear HS
  replace q1 := q1.below b1 q1.lt; replace q2 := q2.below b1 q2.lt; replace q3 := q3.below b1 q3.lt; replace q4 := seq_below q4 b1; clear b1
  have hge' : w.heap.size + 1 + 1 + 1 ≤ g := by simpa using hge
  clear hge
  have k1 := q1.cell 1 _ rfl
  have k30 := q3.cell 0 _ rfl; have k31 := q3.cell 1 _ rfl
  have f30 := q3.free 0; have f31 := q3.free 1
  have k20 := q2.cell 0 _ rfl; have k21 := q2.cell 1 _ rfl
  have f20 := q2.free 0; have f21 := q2.free 1
  go_wp2
  exact bodyPost_ret (results_cells rfl _ _ _ rfl ((((q2.other (by omega) _).other (by omega) _).set 0 _).set 1 _) Try.underlying34 rfl info_ring) rfl
    ⟨g, rfl, (((hg.other (by omega) _).other (by omega) _).other (by omega) _).other (by omega) _, by omega, below_setCell (below_setCell (below_setCell (below_setCell q4 (by omega) _) (by omega) _) (by omega) _) (by omega) _⟩
theorem c_eqRing (A B : Option Addr) (c d : Nat) (xs ys : List Nat) (at0 : Int) (w : World) (hs : Sl w A xs) (ht : Sl w B ys) (hl : xs.length = ys.length) (hl2 : xs.length ≤ 4294967296) (h : ∀ j, j < xs.length → cv .f32 (nth xs j) = cv .f32 (nth ys j)) :
    Calls Try.prog 50 #[.agg #[.slice A xs.length c, .int .i64 at0], .agg #[.slice B ys.length d, .int .i64 at0]] w fun e w' => e = .returned (.bool true) ∧ Below w.heap.size w w' := by
  have q1 : Row ((w.alloc (.cells #[.slice A xs.length c, .int .i64 at0] 34)).alloc (.cells #[.slice B ys.length d, .int .i64 at0] 34)) w.heap.size #[.slice A xs.length c, .int .i64 at0] 34 := (Row.new _ _ _ _ rfl).alloc _
  have q2 : Row ((w.alloc (.cells #[.slice A xs.length c, .int .i64 at0] 34)).alloc (.cells #[.slice B ys.length d, .int .i64 at0] 34)) (w.heap.size + 1) #[.slice B ys.length d, .int .i64 at0] 34 := Row.new _ _ _ _ (by simp)
  have q4 := Go.Joins.below_alloc2 w (.cells #[.slice A xs.length c, .int .i64 at0] 34) (.cells #[.slice B ys.length d, .int .i64 at0] 34)
  have HS := Lib.hid (hs.below q4); have HT := Lib.hid (ht.below q4); have HL := Lib.hid hl; have HL2 := Lib.hid hl2; have H := Lib.hid h; clear hs ht hl hl2 h
  go_enter Try.func50, Try.ntmps50
  go_wp2_with fail
  refine (c_eqFloat32S _ _ _ _ _ _ _ HS.out HT.out HL.out HL2.out H.out).mono ?_
  rintro e w1 ⟨rfl, b1⟩
  clear HS HT
  replace q1 := q1.below b1 q1.lt; replace q2 := q2.below b1 q2.lt; replace q4 := seq_below q4 b1; clear b1
  have k1 := q1.cell 1 _ rfl; have k2 := q2.cell 1 _ rfl
  go_wp2
  go_ret
  exact ⟨rfl, q4⟩
end Go.Proofs.Ytpchebclhjgcmaa
