/- Draws: a type and a number of values, mostly of what is there; offsets to be raised. -/
import Derived.Test.YticimccfeohpcaaXD
import Derived.Test.YticimccfeohpcaaXV
namespace Go.Proofs.Yticimccfeohpcaa
open Go.Sort Go.ChangeShapes Go.WideShapes Go.ChangeAt Go.RowKit Go.Lb
set_option maxRecDepth 20000 in
set_option maxHeartbeats 4000000 in
theorem spec_l5Type (l : List V) (x : Value) (w : World) (g : Nat) (hd : Dr w g) {lo hi : Nat} (hx : RdV w lo hi x l) (_hg : g < lo) (_hhi : hi ≤ w.heap.size) (h0 : 0 < l.length) (hl : l.length ≤ 30) :
    Calls Try.prog 108 #[.pointer (some ⟨g, 0, none⟩), x] w (DrP w g fun v _ => ∃ ty k : Int, v = .tuple #[.int .i64 ty, .int .i64 k]) := by
  obtain ⟨A, c, rfl, hl1, hl2⟩ := hx.form
  obtain ⟨b, off, y, rfl, hlb, hbl, -, e0, e1, e2⟩ := hx.at h0
  simp only [Nat.zero_mul, Nat.add_zero] at e0 e1 e2
  have hdl : decide (0 < (l.length : Int)) = true := decide_eq_true (by omega)
  clear e1 e2
  go_enter Try.func108, Try.ntmps108
  go_wp2_with fail
  refine (spec_l1Below 8 w g hd (by decide)).mono ?_
  rintro e w2 ⟨_, rfl, ⟨k, rfl, -, -⟩, hch2, hd2⟩
  have hlt2 := hd2.lt
  by_cases hk0 : k = 0
  · subst hk0
    go_wp2_with fail
    refine (spec_l1Below 4 w2 g hd2 (by decide)).mono ?_
    rintro e w3 ⟨_, rfl, ⟨t, rfl, -, -⟩, hch3, hd3⟩
    have hch3 := hch2.trans hch3
    go_wp2_with fail
    refine bodyPost_ret (v := .tuple #[.int .i64 (t : Int), .int .i64 (l.length : Int)]) (by simp [results, Try.results108, go_sem]) rfl ⟨_, rfl, ⟨_, _, rfl⟩, hch3, hd3⟩
  have b0 : ((k : Int) == 0) = false := by simp; omega
  by_cases hk1 : k = 1
  · subst hk1
    have hx := rdI_new w2 [0, (l.length : Int) + 1, (l.length : Int) - 1, 65, -1] 3 (by simp [maxLen])
    have hd4 := dr_new hd2 (([0, (l.length : Int) + 1, (l.length : Int) - 1, 65, -1] : List Int).map (Value.int .i64)).toArray 3
    have hc4 := hch2.trans (chg_new g w2 (([0, (l.length : Int) + 1, (l.length : Int) - 1, 65, -1] : List Int).map (Value.int .i64)).toArray 3)
    go_wp2_with fail
    refine (spec_l1Int [0, (l.length : Int) + 1, (l.length : Int) - 1, 65, -1] _ _ g hd4 (RdG.imp hx hlt2 (Nat.le_refl _) fun _ _ _ _ _ h => h) (by simp) (by simp) (by simp)).mono ?_
    rintro e w5 ⟨_, rfl, ⟨j, hj, rfl⟩, hch5, hd5⟩
    have hc5 := hc4.trans hch5
    clear hj
    go_wp2_with fail
    refine bodyPost_ret (v := .tuple #[.int .i64 y.ty, .int .i64 j]) (by simp [results, Try.results108, go_sem]) rfl ⟨_, rfl, ⟨_, _, rfl⟩, hc5, hd5⟩
  · have b1 : ((k : Int) == 1) = false := by simp; omega
    go_wp2_with fail
    refine bodyPost_ret (v := .tuple #[.int .i64 y.ty, .int .i64 (l.length : Int)]) (by simp [results, Try.results108, go_sem]) rfl ⟨_, rfl, ⟨_, _, rfl⟩, hch2, hd2⟩
end Go.Proofs.Yticimccfeohpcaa
