/- Pipes that are the same but for where they lie. No condition. -/
import Derived.Test.YtpchebclhjgcmaaLv
import Derived.Test.YtpchebclhjgcmaaHg
namespace Go.Proofs.Ytpchebclhjgcmaa
open Go.RowKit Go.Fl
theorem FilEq.symm {F G : Fil} (h : FilEq F G) : FilEq G F := ⟨h.1.symm, h.2.1.symm, h.2.2.1.symm, h.2.2.2.1.symm, h.2.2.2.2.1.symm, h.2.2.2.2.2.symm⟩
theorem FilEq.trans {F G K : Fil} (h : FilEq F G) (g : FilEq G K) : FilEq F K := ⟨h.1.trans g.1, h.2.1.trans g.2.1, h.2.2.1.trans g.2.2.1, h.2.2.2.1.trans g.2.2.2.1, h.2.2.2.2.1.trans g.2.2.2.2.1, h.2.2.2.2.2.trans g.2.2.2.2.2⟩
theorem PipEq.mid {p a b : PipV} (h : PipEq p a) (g : PipEq p b) : PipEq a b := by
  obtain ⟨⟨h1, h2⟩, ⟨h3, h4⟩, ⟨h5, h6⟩, h7, h8, h9, h10, h11⟩ := h
  obtain ⟨⟨g1, g2⟩, ⟨g3, g4⟩, ⟨g5, g6⟩, g7, g8, g9, g10, g11⟩ := g
  refine ⟨⟨g1.trans h1.symm, ?_⟩, ⟨g3.trans h3.symm, ?_⟩, ⟨g5.trans h5.symm, ?_⟩, h7.symm.trans g7, h8.symm.trans g8, h9.symm.trans g9, h10.symm.trans g10, h11.symm.trans g11⟩
  · rw [h1]; exact h2.symm.trans g2
  · rw [h3]; exact h4.symm.trans g4
  · intro j hj; rw [h5] at hj; exact (h6 j hj).symm.trans (g6 j hj)
theorem RsSz.of_eq {rs qs : List RingV} {m : Nat} (h : RsSz rs m) (hl : qs.length = rs.length) (he : RsEq rs qs rs.length) : RsSz qs m :=
  ⟨by rw [hl]; exact h.1, fun k hk => by rw [(he k (by omega)).1]; exact h.2 k (by omega)⟩
theorem PipSz.of_eq {p a : PipV} (h : PipSz p) (g : PipEq p a) : PipSz a :=
  ⟨RsSz.of_eq h.1 g.1.1 g.1.2, RsSz.of_eq h.2.1 g.2.1.1 g.2.1.2, by rw [g.2.2.1.1]; exact h.2.2⟩
theorem srsB_congr {rs qs ps bs : List RingV} (h1 : ps.length = rs.length) (h2 : RsEq rs ps rs.length) (g1 : bs.length = qs.length) (g2 : RsEq qs bs qs.length) : srsB ps bs = srsB rs qs := by
  unfold srsB
  rw [h1, g1]
  by_cases e : rs.length = qs.length
  · congr 1
    unfold srN
    apply Bool.eq_iff_iff.2
    rw [List.all_eq_true, List.all_eq_true]
    constructor <;> intro h k hk
    · have := h k hk
      have hk' : k < rs.length := by simpa using hk
      unfold srK at this ⊢
      rwa [(h2 k hk').1, (h2 k hk').2, (g2 k (by omega)).1, (g2 k (by omega)).2] at this
    · have := h k hk
      have hk' : k < rs.length := by simpa using hk
      unfold srK at this ⊢
      rwa [(h2 k hk').1, (h2 k hk').2, (g2 k (by omega)).1, (g2 k (by omega)).2]
  · rw [decide_eq_false e]; rfl
theorem sameB_congr {a b c d : Nat} (h : cv .f32 a = cv .f32 c) (g : cv .f32 b = cv .f32 d) : sameB a b = sameB c d := by unfold sameB; rw [h, g]
theorem sameL_congr {xs ys ps bs : List Nat} (h1 : ps.length = xs.length) (h2 : ∀ j, j < xs.length → cv .f32 (nth xs j) = cv .f32 (nth ps j)) (g1 : bs.length = ys.length) (g2 : ∀ j, j < ys.length → cv .f32 (nth ys j) = cv .f32 (nth bs j)) : sameL ps bs = sameL xs ys := by
  unfold sameL
  rw [h1, g1]
  by_cases e : xs.length = ys.length
  · congr 1
    unfold sameN
    apply Bool.eq_iff_iff.2
    rw [List.all_eq_true, List.all_eq_true]
    constructor <;> intro h k hk
    · have hk' : k < xs.length := by simpa using hk
      rw [← sameB_congr (h2 k hk').symm (g2 k (by omega)).symm]; exact h k hk
    · have hk' : k < xs.length := by simpa using hk
      rw [sameB_congr (h2 k hk').symm (g2 k (by omega)).symm]; exact h k hk
  · rw [decide_eq_false e]; rfl
theorem sfF_congr {F G H K : Fil} (h : FilEq F H) (g : FilEq G K) : sfF H K = sfF F G := by
  obtain ⟨h1, h2, h3, h4, h5, h6⟩ := h
  obtain ⟨g1, g2, g3, g4, g5, g6⟩ := g
  unfold sfF sfB
  rw [h1, g1]
  rw [sameL_congr (xs := [F.c0, F.c1, F.c2]) (ys := [G.c0, G.c1, G.c2]) (ps := [H.c0, H.c1, H.c2]) (bs := [K.c0, K.c1, K.c2]) rfl (fun j hj => ?_) rfl (fun j hj => ?_), sameL_congr (xs := [F.s0, F.s1]) (ys := [G.s0, G.s1]) (ps := [H.s0, H.s1]) (bs := [K.s0, K.s1]) rfl (fun j hj => ?_) rfl (fun j hj => ?_)]
  · rcases (by simp at hj; omega : j = 0 ∨ j = 1) with rfl | rfl <;> assumption
  · rcases (by simp at hj; omega : j = 0 ∨ j = 1) with rfl | rfl <;> assumption
  · rcases (by simp at hj; omega : j = 0 ∨ j = 1 ∨ j = 2) with rfl | rfl | rfl <;> assumption
  · rcases (by simp at hj; omega : j = 0 ∨ j = 1 ∨ j = 2) with rfl | rfl | rfl <;> assumption
theorem spB_congr {p q a b : PipV} (h : PipEq p a) (g : PipEq q b) : spB a b = spB p q := by
  obtain ⟨⟨h1, h2⟩, ⟨h3, h4⟩, ⟨h5, h6⟩, h7, h8, h9, h10, h11⟩ := h
  obtain ⟨⟨g1, g2⟩, ⟨g3, g4⟩, ⟨g5, g6⟩, g7, g8, g9, g10, g11⟩ := g
  unfold spB
  rw [srsB_congr h1 h2 g1 g2, srsB_congr h3 h4 g3 g4, sameL_congr h5 h6 g5 g6, sfF_congr h7 g7, h8, g8, sameB_congr h9.symm g9.symm, sameB_congr h10.symm g10.symm, sameB_congr h11.symm g11.symm]
theorem pipT : PipT Try.prog 68 :=
  ⟨⟨_, _, _, _, _, _, _, _, _, _, _, Try.underlying68, rfl, rfl, rfl, rfl, rfl, rfl, rfl, rfl, ⟨Try.underlying66, ringT, by kernel_rfl⟩, ⟨Try.underlying66, ringT, by kernel_rfl⟩, ⟨Try.underlying22, Try.underlying25, by kernel_rfl, by kernel_rfl⟩, filT, ⟨Try.underlying4, by kernel_rfl⟩, ⟨Try.underlying25, by kernel_rfl⟩, ⟨Try.underlying25, by kernel_rfl⟩, ⟨Try.underlying25, by kernel_rfl⟩⟩, by kernel_rfl⟩
end Go.Proofs.Ytpchebclhjgcmaa
