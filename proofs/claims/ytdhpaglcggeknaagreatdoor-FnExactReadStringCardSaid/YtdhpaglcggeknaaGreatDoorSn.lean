/- The law's own helpers over rings. No condition. -/
import Derived.Test.YtdhpaglcggeknaaGreatDoorSm
import Derived.Test.YtdhpaglcggeknaaGreatDoorFe
import Derived.BigQuiet
import Derived.Deep.QuietTactic
namespace Go.Proofs.YtdhpaglcggeknaaGreatDoor
open Go.RowKit Go.Fl
theorem Row.free {w : World} {g : Nat} {cs : Array Value} {t : TypeId} (h : Row w g cs t) (k : Nat) : w.frozen? ⟨g, k, none⟩ = false := Go.Joins.unfrozen_of_block h k
theorem Row.set {w : World} {g : Nat} {cs : Array Value} {t : TypeId} (h : Row w g cs t) (k : Nat) (v : Value) : Row (w.setCell ⟨g, k, none⟩ v) g (cs.setIfInBounds k v) t := by
  unfold Row
  rw [Go.Joins.block_setCell h]
theorem Row.other {w : World} {g : Nat} {cs : Array Value} {t : TypeId} (h : Row w g cs t) {b off : Nat} (ha : g ≠ b) (v : Value) : Row (w.setCell ⟨b, off, none⟩ v) g cs t := by
  unfold Row
  rw [Below.heap_setCell _ _ _ _ ha]; exact h
theorem info_ring : (Tryz.prog.info? 24).map (·.size) = some 2 := by kernel_rfl
theorem c_eqRing (A B : Option Addr) (c d : Nat) (xs ys : List Nat) (at0 : Int) (w : World) (hs : Sl w A xs) (ht : Sl w B ys) (hl : xs.length = ys.length) (hl2 : xs.length ≤ 4294967296) (h : ∀ j, j < xs.length → cv .f32 (nth xs j) = cv .f32 (nth ys j)) :
    Calls Tryz.prog 21 #[.agg #[.slice A xs.length c, .int .i64 at0], .agg #[.slice B ys.length d, .int .i64 at0]] w fun e w' => e = .returned (.bool true) ∧ Below w.heap.size w w' := by
  have q1 : Row ((w.alloc (.cells #[.slice A xs.length c, .int .i64 at0] 24)).alloc (.cells #[.slice B ys.length d, .int .i64 at0] 24)) w.heap.size #[.slice A xs.length c, .int .i64 at0] 24 := (Row.new _ _ _ _ rfl).alloc _
  have q2 : Row ((w.alloc (.cells #[.slice A xs.length c, .int .i64 at0] 24)).alloc (.cells #[.slice B ys.length d, .int .i64 at0] 24)) (w.heap.size + 1) #[.slice B ys.length d, .int .i64 at0] 24 := Row.new _ _ _ _ (by simp)
  have q4 := Go.Joins.below_alloc2 w (.cells #[.slice A xs.length c, .int .i64 at0] 24) (.cells #[.slice B ys.length d, .int .i64 at0] 24)
  have HS := Lib.hid (hs.below q4); have HT := Lib.hid (ht.below q4); have HL := Lib.hid hl; have HL2 := Lib.hid hl2; have H := Lib.hid h; clear hs ht hl hl2 h
  go_enter Tryz.func21, Tryz.ntmps21
  go_wp2_with fail
  refine (c_eqFloat32S _ _ _ _ _ _ _ HS.out HT.out HL.out HL2.out H.out).mono ?_
  rintro e w1 ⟨rfl, b1⟩
  clear HS HT
  replace q1 := q1.below b1 q1.lt; replace q2 := q2.below b1 q2.lt; replace q4 := seq_below q4 b1; clear b1
  have k1 := q1.cell 1 _ rfl; have k2 := q2.cell 1 _ rfl
  go_wp2
  go_ret
  exact ⟨rfl, q4⟩
end Go.Proofs.YtdhpaglcggeknaaGreatDoor
