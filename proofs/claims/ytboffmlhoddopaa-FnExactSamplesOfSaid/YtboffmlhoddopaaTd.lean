/- Rings turned. No condition. -/
import Derived.Test.YtboffmlhoddopaaTc
namespace Go.Fl
open Go.RowKit
theorem grownBy_setRow (w : World) (g : Nat) (cs : Array Value) : w.grownBy (w.setRow g cs) (some g) := ⟨rfl, rfl, rfl, by simp, fun k _ hn => setRow_other w g k cs (fun e => hn (by rw [e]))⟩
theorem addr_add_add (ad : Addr) (j k : Nat) : (ad.add j).add k = ad.add (j + k) := by
  obtain ⟨b, o, s⟩ := ad
  unfold Addr.add
  repeat' split
  all_goals (simp_all; try omega)
theorem Sl.drop {w : World} {ad : Addr} {xs : List Nat} (h : Sl w (some ad) xs) (j : Nat) (hj : j < xs.length) : Sl w (some (ad.add j)) (xs.drop j) := by
  rcases h with h | ⟨a, hA, hlt, hc⟩
  · rw [h] at hj; simp at hj
  · cases hA
    refine .inr ⟨_, rfl, by rw [addr_add_block]; exact hlt, fun k hk => ?_⟩
    rw [List.length_drop] at hk
    rw [addr_add_add, hc _ (by omega)]
    simp [nth, List.getD_eq_getElem?_getD, List.getElem?_drop]
theorem Sl.take {w : World} {ad : Addr} {xs : List Nat} (h : Sl w (some ad) xs) (j : Nat) : Sl w (some ad) (xs.take j) := by
  rcases h with h | ⟨a, hA, hlt, hc⟩
  · left; rw [h]; simp
  · cases hA
    refine .inr ⟨_, rfl, hlt, fun k hk => ?_⟩
    rw [List.length_take] at hk
    rw [hc _ (by omega)]
    have : k < j := by omega
    simp [nth, List.getD_eq_getElem?_getD, this]
theorem wp_append_sl_n {P : Program} {w : World} {o : Oper} {a : Act} {K : Act → World → Prop} {Q : Exit → Act → World → Prop} (s x : Operand) (t : TypeId)
    (ho : o.op = .call { callee := .builtin .append, args := #[s, x], argTypes := #[t, t] }) (base : Nat) (e : TypeId) (ht : P.underlying t = some (.slice e)) (hinfo : (P.info? e).map (fun i => (i.zero, i.size, i.bytes)) = some (some (.float .f32 0), 1, 4))
    {A : Option Addr} {c n : Nat} {xs : List Nat} (hn : xs.length = n) (hs : a.eval s = .slice A n c) (hown : Own w base A c xs e) {ad : Addr} {d m : Nat} {ys : List Nat} (hm : ys.length = m) (hx : a.eval x = .slice (some ad) m d) (hsl : Sl w (some ad) ys)
    (h63 : n + m ≤ 16777216) (hbase : base ≤ w.heap.size)
    (h : ∀ A' c' w', Own w' base A' c' (xs ++ ys) e → w.grownBy w' (ownBlk A) → (A' = none ↔ A = none ∧ ys = []) → K (a.put o.dst (.slice A' (n + m) c')) w') : o.wp P a w K Q := by
  subst hn; subst hm
  exact wp_append_sl s x t ho base e ht hinfo hs hown hx hsl h63 hbase h
end Go.Fl
namespace Go.Proofs.Ytboffmlhoddopaa
open Go.RowKit Go.Fl
theorem wp_store_cells {P : Program} {o : Oper} {a : Act} {w : World} {K : Act → World → Prop} {Q : Exit → Act → World → Prop} (ty : TypeId) (x y : Operand) (ho : o.op = .store ty x y) (g : Nat) (hx : a.eval x = .pointer (some ⟨g, 0, none⟩)) {cells : Array Value} (hy : a.eval y = .agg cells) {old : Array Value} {t : TypeId} (hb : Row w g old t)
    (hi : (P.info? ty).map (·.size) = some cells.size) (hold : old.size = cells.size) (h1 : cells.toList.all (·.oneCell') = true) (h : K (a.put o.dst undef) (w.setRow g cells)) : o.wp P a w K Q :=
  wp_store_row ty x y ho g cells hx hy t old hb hi hold (by rw [← Array.all_toList]; exact h1) h
theorem c_Concat_n (gL c1 c2 n1 n2 : Nat) (a1 a2 : Addr) (xs ys : List Nat) (w : World) (hx1 : xs.length = n1) (hy1 : ys.length = n2) (hr : Row w gL #[.slice (some a1) n1 c1, .slice (some a2) n2 c2] 37) (hx : Sl w (some a1) xs) (hy : Sl w (some a2) ys) (h1 : 1 ≤ n1) (h2 : n1 + n2 ≤ 1048576) :
    Calls Try.prog 73 #[.slice (some ⟨gL, 0, none⟩) 2 2] w fun e w' => ∃ A c, e = .returned (.slice A (n1 + n2) c) ∧ Own w' w.heap.size A c (xs ++ ys) 22 ∧ Below w.heap.size w w' := by
  subst hx1; subst hy1; exact c_Concat gL c1 c2 a1 a2 xs ys w hr hx hy h1 h2
set_option maxRecDepth 20000 in
set_option maxHeartbeats 1000000 in
theorem c_iTurnRing_no (A : Option Addr) (n c : Nat) (at0 : Int) (w : World) (hn : (n : Int) ≤ 4294967296) (hr : ringOk n at0 = false) :
    Calls Try.prog 40 #[.agg #[.slice A n c, .int .i64 at0]] w fun e w' => e = .returned (.tuple #[.agg #[.slice none 0 0, .int .i64 0], .int .i64 1]) ∧ Below w.heap.size w w' := by
  have q : Row ((w.alloc (.cells #[.slice A n c, .int .i64 at0] 42)).alloc (.cells #[.slice none 0 0, .int .i64 0] 42)) w.heap.size #[.slice A n c, .int .i64 at0] 42 := (Row.new _ _ _ _ rfl).alloc _
  have q2 : Row ((w.alloc (.cells #[.slice A n c, .int .i64 at0] 42)).alloc (.cells #[.slice none 0 0, .int .i64 0] 42)) (w.heap.size + 1) #[.slice none 0 0, .int .i64 0] 42 := Row.new _ _ _ _ (by simp)
  have hb := Go.Joins.below_alloc2 w (.cells #[.slice A n c, .int .i64 at0] 42) (.cells #[.slice none 0 0, .int .i64 0] 42)
  have HN := Lib.hid hn; have HR := Lib.hid hr; clear hn hr
  go_enter Try.func40, Try.ntmps40
  go_wp2_with (first
    | (refine wpList_load_cells rfl 42 _ rfl _ rfl q Try.underlying42 rfl info_ring ?_)
    | (go_at_call 28; refine (c_iValidRing _ _ _ _ _ HN.out).mono ?_; rintro e w1 ⟨rfl, b⟩; rw [HR.out]; replace q2 := q2.below b q2.lt; replace hb := seq_below hb b)
    | (refine wpList_store_own rfl 42 _ _ rfl rfl rfl hb (Nat.le_succ _) q2 info_ring rfl rfl (fun w2 b2 h2 => ?_)))
  exact bodyPost_ret (results_cells_tmp rfl _ _ _ rfl rfl h2 Try.underlying42 rfl info_ring) rfl ⟨rfl, b2⟩
set_option maxRecDepth 20000 in
set_option maxHeartbeats 1000000 in
theorem c_iTurnRing (ad : Addr) (c : Nat) (xs : List Nat) (j : Nat) (w : World) (hs : Sl w (some ad) xs) (hn : (xs.length : Int) ≤ 1024) (hr : ringOk xs.length j = true) (h1 : 1 ≤ xs.length) (h2 : j < xs.length) (hc : xs.length ≤ c) :
    Calls Try.prog 40 #[.agg #[.slice (some ad) xs.length c, .int .i64 j]] w fun e w' => ∃ A' c', e = .returned (.tuple #[.agg #[.slice A' xs.length c', .int .i64 0], .int .i64 0]) ∧ Own w' w.heap.size A' c' (xs.drop j ++ xs.take j) 22 ∧ Below w.heap.size w w' := by
  have q : Row ((w.alloc (.cells #[.slice (some ad) xs.length c, .int .i64 j] 42)).alloc (.cells #[.slice none 0 0, .int .i64 0] 42)) w.heap.size #[.slice (some ad) xs.length c, .int .i64 j] 42 := (Row.new _ _ _ _ rfl).alloc _
  have q2 : Row ((w.alloc (.cells #[.slice (some ad) xs.length c, .int .i64 j] 42)).alloc (.cells #[.slice none 0 0, .int .i64 0] 42)) (w.heap.size + 1) #[.slice none 0 0, .int .i64 0] 42 := Row.new _ _ _ _ (by simp)
  have hb := Go.Joins.below_alloc2 w (.cells #[.slice (some ad) xs.length c, .int .i64 j] 42) (.cells #[.slice none 0 0, .int .i64 0] 42)
  have HN := Lib.hid (show (xs.length : Int) ≤ 4294967296 from by omega); have HR := Lib.hid hr; have HS := Lib.hid (hs.below hb); have HN2 := Lib.hid (show xs.length ≤ 1024 from by omega); clear hn hr hs
  have g0 : (0 : Int) ≤ (j : Int) := by omega
  have g1 : (j : Int) ≤ (xs.length : Int) := by omega
  have g2 : (xs.length : Int) ≤ (c : Int) := by omega
  go_enter Try.func40, Try.ntmps40
  go_wp2_with (first
    | (refine wpList_load_cells rfl 42 _ rfl _ rfl q Try.underlying42 rfl info_ring ?_)
    | (go_at_call 28; refine (c_iValidRing _ _ _ _ _ HN.out).mono ?_; rintro e w1 ⟨rfl, b⟩; rw [HR.out]; replace q := q.below b q.lt; replace q2 := q2.below b q2.lt; replace hb := seq_below hb b; replace HS := Lib.hid (HS.out.below b); clear b))
  have hge : w.heap.size + 1 < w1.heap.size := q2.lt
  have s0 := ((Below.refl (w.heap.size + 1) w1).drew)
  refine wp_region_seq (S := fun w' => Below (w.heap.size + 1) w1 w') [(true, 0), (true, 1), (true, 2), (true, 3), (true, 4), (true, 5), (true, 6), (true, 7), (true, 8), (true, 9), (false, 10), (false, 11), (true, 12), (false, 13), (true, 14)] (by kernel_rfl) (by kernel_rfl) (by kernel_rfl) (fun _ _ d _ _ h => by cases d <;> exact h) s0 ?_
  have k0 : ∀ w', Below (w.heap.size + 1) w1 w' → w'.cell? ⟨w.heap.size, 0, none⟩ = some (.slice (some ad) xs.length c) := fun w' h => (q.below h (Nat.lt_succ_self _)).cell 0 _ rfl
  have k1 : ∀ w', Below (w.heap.size + 1) w1 w' → w'.cell? ⟨w.heap.size, 1, none⟩ = some (.int .i64 j) := fun w' h => (q.below h (Nat.lt_succ_self _)).cell 1 _ rfl
  have K0 := Lib.hid k0; have K1 := Lib.hid k1; clear k0 k1
  refine wpSeq_held (v := .pointer (some ⟨w.heap.size, 0, none⟩)) rfl (.inl ⟨rfl, fun w' hw => by go_simp⟩) ?_
  refine wpSeq_held (v := .slice (some ad) xs.length c) rfl (.inl ⟨rfl, fun w' hw => by have k := K0.out w' hw; go_simp⟩) ?_
  refine wpSeq_held (v := .pointer (some ⟨w.heap.size, 1, none⟩)) rfl (.inl ⟨rfl, fun w' hw => by go_simp⟩) ?_
  refine wpSeq_held (v := .int .i64 j) rfl (.inl ⟨rfl, fun w' hw => by have k := K1.out w' hw; go_simp⟩) ?_
  refine wpSeq_held (v := .slice (some (ad.add j)) (xs.length - j) (c - j)) rfl (.inl ⟨rfl, fun w' hw => by go_simp; intro h; omega⟩) ?_
  refine wpSeq_held (v := .pointer (some ⟨w.heap.size, 0, none⟩)) rfl (.inl ⟨rfl, fun w' hw => by go_simp⟩) ?_
  refine wpSeq_held (v := .slice (some ad) xs.length c) rfl (.inl ⟨rfl, fun w' hw => by have k := K0.out w' hw; go_simp⟩) ?_
  refine wpSeq_held (v := .pointer (some ⟨w.heap.size, 1, none⟩)) rfl (.inl ⟨rfl, fun w' hw => by go_simp⟩) ?_
  refine wpSeq_held (v := .int .i64 j) rfl (.inl ⟨rfl, fun w' hw => by have k := K1.out w' hw; go_simp⟩) ?_
  refine wpSeq_held (v := .slice (some ad) j c) rfl (.inl ⟨rfl, fun w' hw => by go_simp; intro h; omega⟩) ?_
  refine wpSeq_step rfl rfl (fun K hK => ?_)
  go_wp2_with fail
  have s1 : Below w1.heap.size w1 (w1.alloc (Obj.cells #[Value.slice (some (ad.add j)) (xs.length - j) (c - j), Value.slice (some ad) j c] 37)).drew := (Go.Joins.below_alloc1 w1 _).drew
  have r1 : Row (w1.alloc (Obj.cells #[Value.slice (some (ad.add j)) (xs.length - j) (c - j), Value.slice (some ad) j c] 37)).drew w1.heap.size #[Value.slice (some (ad.add j)) (xs.length - j) (c - j), Value.slice (some ad) j c] 37 := Row.new w1 _ _ _ rfl
  refine ⟨s1.mono (Nat.le_of_lt hge), ?_⟩
  refine wpSeq_step rfl rfl (fun K hK => ?_)
  go_wp2_with fail
  refine (c_Concat_n _ _ _ _ _ _ _ (xs.drop j) (xs.take j) _ (List.length_drop ..) (by rw [List.length_take]; omega) r1 ((HS.out.below s1).drop j h2) ((HS.out.below s1).take j) (by omega) (by have := HN2.out; omega)).mono ?_
  rintro e w2 ⟨A', c', rfl, ho, b2⟩
  have s2 := seq_below s1 b2
  refine hK _ _ ⟨s2.mono (Nat.le_of_lt hge), ?_⟩; clear hK
  refine wpSeq_held (v := .agg #[.slice A' (xs.length - j + j) c', .int .i64 0]) rfl (.inl ⟨rfl, fun w' hw => by go_simp⟩) ?_
  refine wpSeq_step rfl rfl (fun K hK => ?_)
  refine wp_store_cells 42 _ _ rfl _ rfl rfl (q2.below s2 q2.lt) info_ring rfl rfl ?_
  have e1 : xs.length - j + j = xs.length := by omega
  rw [e1]
  have s3 := below_setRow (s2.mono (Nat.le_of_lt hge)) (g := w.heap.size + 1) (Nat.le_refl _) #[.slice A' xs.length c', .int .i64 0]
  refine hK _ _ ⟨s3, ?_⟩; clear hK
  refine wpSeq_held rfl (yields_move rfl _ (.inr rfl)) ?_
  refine wpSeq_nil ?_
  have hq := (q2.below s2 q2.lt).row #[.slice A' xs.length c', .int .i64 0]
  have hB : w.heap.size + 1 < (w1.alloc (Obj.cells #[Value.slice (some (ad.add j)) (xs.length - j) (c - j), Value.slice (some ad) j c] 37)).drew.heap.size := by show _ < (w1.alloc _).heap.size; simp; omega
  have ho3 := (ho.kept (grownBy_setRow w2 (w.heap.size + 1) #[.slice A' xs.length c', .int .i64 0]) (fun k hk => by have := ho.ge k hk; intro e; cases e; omega)).mono (b := w.heap.size) (by omega)
  have HO := Lib.hid ho3; have S3 := Lib.hid s3; have HB := Lib.hid hb; clear ho ho3 hB s3 hb s0 s1 s2 b2 K0 K1 HS
  go_wp2
  exact bodyPost_ret (results_cells_tmp rfl _ _ _ rfl rfl hq Try.underlying42 rfl info_ring) rfl ⟨A', c', rfl, HO.out, HB.out.trans (S3.out.mono (Nat.le_succ _))⟩
set_option maxRecDepth 20000 in
set_option maxHeartbeats 1000000 in
theorem c_sTurnRing_no (A : Option Addr) (n c : Nat) (at0 : Int) (w : World) (hn : (n : Int) ≤ 4294967296) (hr : ringOk n at0 = false) :
    Calls Try.prog 39 #[.agg #[.slice A n c, .int .i64 at0]] w fun e w' => e = .returned (.tuple #[.agg #[.slice none 0 0, .int .i64 0], .int .i64 1]) ∧ Below w.heap.size w w' := by
  have q : Row ((w.alloc (.cells #[.slice A n c, .int .i64 at0] 42)).alloc (.cells #[.slice none 0 0, .int .i64 0] 42)) w.heap.size #[.slice A n c, .int .i64 at0] 42 := (Row.new _ _ _ _ rfl).alloc _
  have q2 : Row ((w.alloc (.cells #[.slice A n c, .int .i64 at0] 42)).alloc (.cells #[.slice none 0 0, .int .i64 0] 42)) (w.heap.size + 1) #[.slice none 0 0, .int .i64 0] 42 := Row.new _ _ _ _ (by simp)
  have hb := Go.Joins.below_alloc2 w (.cells #[.slice A n c, .int .i64 at0] 42) (.cells #[.slice none 0 0, .int .i64 0] 42)
  have HN := Lib.hid hn; have HR := Lib.hid hr; clear hn hr
  go_enter Try.func39, Try.ntmps39
  go_wp2_with (first
    | (go_at_call 66; refine (c_sL02Ring _ _ _ _ _ _ HN.out q).mono ?_; rintro e w1 ⟨rfl, rfl⟩; rw [HR.out])
    | (refine wpList_store_own rfl 42 _ _ rfl rfl rfl hb (Nat.le_succ _) q2 info_ring rfl rfl (fun w2 b2 h2 => ?_)))
  exact bodyPost_ret (results_cells_tmp rfl _ _ _ rfl rfl h2 Try.underlying42 rfl info_ring) rfl ⟨rfl, b2⟩
set_option maxRecDepth 20000 in
set_option maxHeartbeats 1000000 in
theorem c_sTurnRing (ad : Addr) (c : Nat) (xs : List Nat) (j : Nat) (w : World) (hs : Sl w (some ad) xs) (hn : (xs.length : Int) ≤ 1024) (hr : ringOk xs.length j = true) (h1 : 1 ≤ xs.length) (h2 : j < xs.length) (hc : xs.length ≤ c) :
    Calls Try.prog 39 #[.agg #[.slice (some ad) xs.length c, .int .i64 j]] w fun e w' => ∃ A' c', e = .returned (.tuple #[.agg #[.slice A' xs.length c', .int .i64 0], .int .i64 0]) ∧ Own w' w.heap.size A' c' (xs.drop j ++ xs.take j) 22 ∧ Below w.heap.size w w' := by
  obtain ⟨wa, hwa⟩ : ∃ wa, wa = (w.alloc (.cells #[.slice (some ad) xs.length c, .int .i64 j] 42)).alloc (.cells #[.slice none 0 0, .int .i64 0] 42) := ⟨_, rfl⟩
  have q : Row wa w.heap.size #[.slice (some ad) xs.length c, .int .i64 j] 42 := by subst hwa; exact (Row.new _ _ _ _ rfl).alloc _
  have q2 : Row wa (w.heap.size + 1) #[.slice none 0 0, .int .i64 0] 42 := by subst hwa; exact Row.new _ _ _ _ (by simp)
  have hb : Below w.heap.size w wa := by subst hwa; exact Go.Joins.below_alloc2 w _ _
  have HN := Lib.hid (show (xs.length : Int) ≤ 4294967296 from by omega); have HR := Lib.hid hr; have HS := Lib.hid (hs.below hb); have HN2 := Lib.hid (show xs.length ≤ 1024 from by omega); clear hn hr hs
  have g0 : (0 : Int) ≤ (j : Int) := by omega
  have g1 : (j : Int) ≤ (xs.length : Int) := by omega
  have g2 : (xs.length : Int) ≤ (c : Int) := by omega
  have hge : w.heap.size + 1 < wa.heap.size := q2.lt
  have HW := Lib.hid hwa; clear hwa
  go_enter Try.func39, Try.ntmps39
  go_wp2_with fail
  rw [← HW.out]
  refine (c_sL02Ring _ _ _ _ _ _ HN.out q).mono ?_; rintro e w1 ⟨rfl, rfl⟩; rw [HR.out]
  go_wp2_with fail
  have s0 := ((Below.refl (w.heap.size + 1) w1).drew)
  refine wp_region_seq (S := fun w' => Below (w.heap.size + 1) w1 w') [(true, 1), (true, 2), (true, 3), (true, 4), (true, 5), (true, 7), (true, 8), (true, 9), (true, 10), (true, 11), (false, 0), (false, 6), (false, 12), (true, 13), (false, 14), (true, 15)] (by kernel_rfl) (by kernel_rfl) (by kernel_rfl) (fun _ _ d _ _ h => by cases d <;> exact h) s0 ?_
  have k0 : ∀ w', Below (w.heap.size + 1) w1 w' → w'.cell? ⟨w.heap.size, 0, none⟩ = some (.slice (some ad) xs.length c) := fun w' h => (q.below h (Nat.lt_succ_self _)).cell 0 _ rfl
  have k1 : ∀ w', Below (w.heap.size + 1) w1 w' → w'.cell? ⟨w.heap.size, 1, none⟩ = some (.int .i64 j) := fun w' h => (q.below h (Nat.lt_succ_self _)).cell 1 _ rfl
  have K0 := Lib.hid k0; have K1 := Lib.hid k1; clear k0 k1
  refine wpSeq_held (v := .pointer (some ⟨w.heap.size, 0, none⟩)) rfl (.inl ⟨rfl, fun w' hw => by go_simp⟩) ?_
  refine wpSeq_held (v := .slice (some ad) xs.length c) rfl (.inl ⟨rfl, fun w' hw => by have k := K0.out w' hw; go_simp⟩) ?_
  refine wpSeq_held (v := .pointer (some ⟨w.heap.size, 1, none⟩)) rfl (.inl ⟨rfl, fun w' hw => by go_simp⟩) ?_
  refine wpSeq_held (v := .int .i64 j) rfl (.inl ⟨rfl, fun w' hw => by have k := K1.out w' hw; go_simp⟩) ?_
  refine wpSeq_held (v := .slice (some (ad.add j)) (xs.length - j) (c - j)) rfl (.inl ⟨rfl, fun w' hw => by go_simp; intro h; omega⟩) ?_
  refine wpSeq_held (v := .pointer (some ⟨w.heap.size, 0, none⟩)) rfl (.inl ⟨rfl, fun w' hw => by go_simp⟩) ?_
  refine wpSeq_held (v := .slice (some ad) xs.length c) rfl (.inl ⟨rfl, fun w' hw => by have k := K0.out w' hw; go_simp⟩) ?_
  refine wpSeq_held (v := .pointer (some ⟨w.heap.size, 1, none⟩)) rfl (.inl ⟨rfl, fun w' hw => by go_simp⟩) ?_
  refine wpSeq_held (v := .int .i64 j) rfl (.inl ⟨rfl, fun w' hw => by have k := K1.out w' hw; go_simp⟩) ?_
  refine wpSeq_held (v := .slice (some ad) j c) rfl (.inl ⟨rfl, fun w' hw => by go_simp; intro h; omega⟩) ?_
  refine wpSeq_step rfl rfl (fun K hK => ?_)
  go_wp2_with fail
  have z1 : (w1.alloc (Obj.cells #[] 22)).drew.heap.size = w1.heap.size + 1 := by show (w1.alloc _).heap.size = _; simp
  have s1 : Below w1.heap.size w1 (w1.alloc (Obj.cells #[] 22)).drew := (Go.Joins.below_alloc1 w1 _).drew
  have o1 : Own (w1.alloc (Obj.cells #[] 22)).drew w1.heap.size (some ⟨w1.heap.size, 0, none⟩) 0 [] 22 := Own.of_blk (xs := []) (Blk.newRow w1 [] #[] 22 _ rfl rfl) (Nat.le_refl _) (by simp [maxLen])
  refine ⟨s1.mono (Nat.le_of_lt hge), ?_⟩
  refine wpSeq_step rfl rfl (fun K hK => ?_)
  refine wp_append_sl_n _ _ 37 rfl w1.heap.size 22 Try.underlying37 info_f32e (n := 0) (xs := []) rfl rfl o1 (ys := xs.drop j) (List.length_drop ..) rfl ((HS.out.below s1).drop j h2) (by have := HN2.out; omega) (by omega) ?_
  intro A1 c1 w2 o2 g2 _
  have s2 := s1.grown g2 (by omega) o1.ge
  refine hK _ _ ⟨s2.mono (Nat.le_of_lt hge), ?_⟩; clear hK
  refine wpSeq_step rfl rfl (fun K hK => ?_)
  refine wp_append_sl_n _ _ 37 rfl w1.heap.size 22 Try.underlying37 info_f32e (n := 0 + (xs.length - j)) (by simp) rfl o2 (ys := xs.take j) (by rw [List.length_take]; omega) rfl ((HS.out.below s2).take j) (by have := HN2.out; omega) s2.size ?_
  intro A2 c2 w3 o3 g3 _
  have s3 := s2.grown g3 s2.size o2.ge
  refine hK _ _ ⟨s3.mono (Nat.le_of_lt hge), ?_⟩; clear hK
  have e1 : 0 + (xs.length - j) + j = xs.length := by omega
  rw [e1]
  rw [List.nil_append] at o3
  refine wpSeq_held (v := .agg #[.slice A2 xs.length c2, .int .i64 0]) rfl (.inl ⟨rfl, fun w' hw => by go_simp⟩) ?_
  refine wpSeq_step rfl rfl (fun K hK => ?_)
  refine wp_store_cells 42 _ _ rfl _ rfl rfl (q2.below s3 q2.lt) info_ring rfl rfl ?_
  have s4 := below_setRow (s3.mono (Nat.le_of_lt hge)) (g := w.heap.size + 1) (Nat.le_refl _) #[.slice A2 xs.length c2, .int .i64 0]
  refine hK _ _ ⟨s4, ?_⟩; clear hK
  refine wpSeq_held rfl (yields_move rfl _ (.inr rfl)) ?_
  refine wpSeq_nil ?_
  have hq := (q2.below s3 q2.lt).row #[.slice A2 xs.length c2, .int .i64 0]
  have ho3 := (o3.kept (grownBy_setRow w3 (w.heap.size + 1) #[.slice A2 xs.length c2, .int .i64 0]) (fun k hk => by have := o3.ge k hk; intro e; cases e; omega)).mono (b := w.heap.size) (by omega)
  have HO := Lib.hid ho3; have S3 := Lib.hid s4; have HB := Lib.hid hb; clear o1 o2 o3 ho3 s4 hb s0 s1 s2 s3 g2 g3 K0 K1 HS z1
  go_wp2
  exact bodyPost_ret (results_cells_tmp rfl _ _ _ rfl rfl hq Try.underlying42 rfl info_ring) rfl ⟨A2, c2, rfl, HO.out, HB.out.trans (S3.out.mono (Nat.le_succ _))⟩
end Go.Proofs.Ytboffmlhoddopaa
