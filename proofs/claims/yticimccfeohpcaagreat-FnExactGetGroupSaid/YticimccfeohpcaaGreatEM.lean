/- Values read, one behind the other: contracts. -/
import Derived.Test.YticimccfeohpcaaGreatEK
import Derived.Test.YticimccfeohpcaaGreatEB
import Derived.Test.YticimccfeohpcaaGreatXV
namespace Go.Lb
open Go.RowKit
/-- What a reading of some values hands back. -/
def gvL (o : Option (List V × Nat)) : List V := (o.map Prod.fst).getD []
def gvAt (o : Option (List V × Nat)) (p : Nat) : Nat := match o with | none => 0 | some x => p + x.2
theorem gvL_small {ty : Int} {k : Nat} {s : List UInt8} : ∀ v ∈ gvL (rdL (rdVal ty) k s), v.s.size ≤ maxLen := by
  intro v hv
  cases h : rdL (rdVal ty) k s with
  | none => rw [h] at hv; simp [gvL] at hv
  | some x =>
    obtain ⟨q, m⟩ := x
    rw [h] at hv
    have g2 := (rdL_wr (codec_val ty) h).2.1
    have h1 := List.all_eq_true.1 g2 v hv
    simp only [valOkT, Bool.and_eq_true, decide_eq_true_eq] at h1
    rcases valOk_ty h1.1 with ht | ht
    · rw [(valOk_1 h1.1 ht).2]
      exact Nat.zero_le _
    · exact Nat.le_trans (txt_len h1.1 ht) (by decide)
theorem gvL_len {ty : Int} {k : Nat} {s : List UInt8} : (gvL (rdL (rdVal ty) k s)).length ≤ k := by
  cases h : rdL (rdVal ty) k s with
  | none => simp [gvL]
  | some x =>
    obtain ⟨q, m⟩ := x
    have := (rdL_wr (codec_val ty) h).1
    show q.length ≤ k
    omega
theorem rdVal_le {ty : Int} {s : List UInt8} {v : V} {j : Nat} (h : rdVal ty s = some (v, j)) : j ≤ s.length := by
  obtain ⟨-, -, g3⟩ := (codec_val ty).wr _ _ _ h
  have := congrArg List.length g3
  obtain ⟨-, g2, -⟩ := (codec_val ty).wr _ _ _ h
  rw [List.length_append] at this
  omega
end Go.Lb
namespace Go.Proofs.YticimccfeohpcaaGreat
open Go.Sort Go.ChangeShapes Go.WideShapes Go.ChangeAt Go.RowKit Go.Lb
set_option maxHeartbeats 4000000 in
set_option maxRecDepth 20000 in
theorem impl_getVals (l : List UInt8) (x : Value) (p k : Nat) (ty : Int) (w : World) {lo hi : Nat} (hx : RdB w lo hi x l) (hhi : hi ≤ w.heap.size) (hln : l.length ≤ 1000000000) (hp : p ≤ l.length) (hk : k ≤ 64) :
    Calls Tryz.prog 128 #[x, .int .i64 p, .int .i64 ty, .int .i64 k] w fun e w' => ∃ r, e = .returned (.tuple #[r, .int .i64 (gvAt (rdL (rdVal ty) k (l.drop p)) p : Nat), .bool (rdL (rdVal ty) k (l.drop p)).isSome]) ∧ Own 83 3 w' w.heap.size w'.heap.size r (gvL (rdL (rdVal ty) k (l.drop p))).length ((gvL (rdL (rdVal ty) k (l.drop p))).flatMap V.cells) ∧ Below w.heap.size w w' := by
  obtain ⟨A, c, rfl, hl, hl2⟩ := hx.form
  obtain ⟨i0, hif, hz0, hz1, hz2⟩ := info_parts info_val
  replace hif := Lib.hid hif
  replace hz0 := Lib.hid hz0
  replace hz1 := Lib.hid hz1
  replace hz2 := Lib.hid hz2
  have hb0 := up_a1 w (.cells #[] 83)
  have own0 := World.ownsRow_made w (base := w.heap.size) (e := 83) (size := 3) #[] 0 (Nat.le_refl _) (by decide) rfl
  obtain ⟨O, hO⟩ : ∃ O, rdL (rdVal ty) k (l.drop p) = O := ⟨_, rfl⟩
  rw [hO]
  have HO := Lib.hid hO
  clear hO
  have HST := Lib.hid (RdSt.start (f := rdVal ty) k (l.drop p))
  have HGV := Lib.hid (fun (z : Nat) W (h : Below w.heap.size w W) => impl_GetVal l _ (z : Int) ty W (hx.below h hhi) (Nat.le_trans hhi h.size) hln)
  clear hx
  go_enter Tryz.func128, Tryz.ntmps128
  go_wp2_with fail
  go_loopw [1, 11, 12] (fun a o i wr => ∃ (j m : Nat) (q : List V), Hid (a = .int .i64 ((p + m : Nat) : Int) ∧ i = .int .i64 j ∧ p + m ≤ l.length ∧ RdSt (rdVal ty) k (l.drop p) j q m ∧ wr.ownsRow w.heap.size 83 3 o q.length (q.flatMap V.cells) ∧ Below w.heap.size w wr)) (fun _ _ i _ => k - (intOf i).toNat)
  case atStart => exact ⟨0, 0, [], Lib.hid ⟨rfl, rfl, hp, HST.out, own0, hb0⟩⟩
  case round =>
    obtain ⟨j, m, q, hrel⟩ := hrel
    obtain ⟨rfl, rfl, hpm, hst, hown, hb⟩ := hrel.out
    have hj := hst.1
    have hqj := Lib.hid hst.2.1
    have hq64 : q.length ≤ 64 := by rw [hqj.out]; omega
    have Hst := Lib.hid hst
    have Hown := Lib.hid hown
    have hbs := hb.size
    obtain ⟨Ao, co, rfl, -, -, -⟩ := (Own.new hown).cells
    clear hrel hst hown own0 hb0
    by_cases hjk : j < k
    · have hG := HGV.out (p + m) wr hb
      cases hr : rdVal ty (l.drop (p + m)) with
      | none =>
        rw [getVal_none hr] at hG
        have HN := Lib.hid (show O = none by rw [← HO.out]; exact RdSt.bad Hst.out hjk (by rw [List.drop_drop]; exact hr))
        have HG := Lib.hid hG
        clear hr hG
        go_wp2_with fail
        refine HG.out.mono ?_
        rintro e w1 ⟨rfl, hb1⟩
        have hb1w := below_go hb hb1
        have hs1 := hb1w.size
        have HBw := Lib.hid (hb1w.alloc hs1 (.cells #[.int .i64 V.zero.ty, .int .i64 V.zero.n, .string V.zero.s] 83))
        clear hb1
        go_wp2_with fail
        refine bodyPost_ret (v := .tuple #[.slice none 0 0, .int .i64 0, .bool false]) (by simp [results, Tryz.results128, go_sem]) rfl ⟨_, by rw [HN.out]; rfl, ?_, HBw.out⟩
        rw [HN.out]
        exact own_none_s _ _ _ _ _
      | some x =>
        obtain ⟨v, jj⟩ := x
        have hr2 := getVal_some (l := l) (p := p + m) (ty := ty) hr
        rw [hr2] at hG
        have Hnx := Lib.hid (RdSt.next Hst.out hjk (by rw [List.drop_drop]; exact hr))
        have hjl := rdVal_le hr
        rw [List.length_drop] at hjl
        have HG := Lib.hid hG
        clear hr hr2 hG
        obtain ⟨nx, hnx⟩ : ∃ nx, p + m + jj = nx := ⟨_, rfl⟩
        rw [hnx] at HG
        go_wp2_with fail
        refine HG.out.mono ?_
        rintro e w1 ⟨rfl, hb1⟩
        have HO1 := Lib.hid ((owns_below Hown.out hb1).alloc (.cells #[.int .i64 v.ty, .int .i64 v.n, .string v.s] 83))
        have hb1w := below_go hb hb1
        have hs1 := hb1w.size
        have hbx := hb1w.alloc hs1 (.cells #[.int .i64 v.ty, .int .i64 v.n, .string v.s] 83)
        have hbxs := hbx.size
        have m0 := box_new w1 #[.int .i64 v.ty, .int .i64 v.n, .string v.s] 83 0
        have m1 := box_new w1 #[.int .i64 v.ty, .int .i64 v.n, .string v.s] 83 1
        have m2 := box_new w1 #[.int .i64 v.ty, .int .i64 v.n, .string v.s] 83 2
        simp only [List.getElem?_toArray, List.getElem?_cons_zero, List.getElem?_cons_succ] at m0 m1 m2
        have hblk : ((w1.alloc (.cells #[.int .i64 v.ty, .int .i64 v.n, .string v.s] 83)).alloc (.cells #[.int .i64 v.ty, .int .i64 v.n, .string v.s] 83)).heap[w1.heap.size + 1]? = some (.cells #[.int .i64 v.ty, .int .i64 v.n, .string v.s] 83) := by
          have h := heap_alloc_new (w1.alloc (.cells #[.int .i64 v.ty, .int .i64 v.n, .string v.s] 83)) (.cells #[.int .i64 v.ty, .int .i64 v.n, .string v.s] 83)
          rw [World.size_alloc] at h
          exact h
        have Hblk := Lib.hid hblk
        clear hblk hb1 HG Hown
        go_wp2_with (at_builtin; refine wpl_app rfl _ _ 42 rfl w.heap.size 83 i0 _ 3 32 Tryz.underlying42 hif.out hz0.out hz1.out hz2.out rfl (by decide) (by decide) (HO1.out.alloc _) rfl Hblk.out rfl rfl (by simp [Value.oneCell']) (by omega) (by simp; omega) ?_)
        intro v4 w4 hown4 hgrow _
        have HB4 := Lib.hid (Below.grown (hbx.alloc hbxs _) hgrow (fun g hg => (HO1.out.lt g hg).1) (Nat.le_refl _))
        have HO4 := Lib.hid (show w4.ownsRow w.heap.size 83 3 v4 (q ++ [v]).length ((q ++ [v]).flatMap V.cells) by
          rw [List.flatMap_append, List.length_append]
          exact hown4)
        clear hown4 hgrow HO1 Hblk m0 m1 m2
        go_wp2_with fail
        go_roundw
        case rel => exact ⟨j + 1, m + jj, q ++ [v], Lib.hid ⟨by rw [← hnx]; go_num, by go_num, by omega, Hnx.out, HO4.out, HB4.out⟩⟩
        case measure => simp [intOf]; omega
    · obtain rfl : j = k := by omega
      have HD := Lib.hid (show O = some (q, m) by rw [← HO.out]; exact RdSt.done Hst.out)
      go_wp2_with fail
      refine bodyPost_ret (v := .tuple #[.slice Ao q.length co, .int .i64 ((p + m : Nat) : Int), .bool true]) (by simp [results, Tryz.results128, go_sem]) rfl ⟨_, by rw [HD.out]; rfl, ?_, hb⟩
      rw [HD.out]
      exact Own.new Hown.out
end Go.Proofs.YticimccfeohpcaaGreat
