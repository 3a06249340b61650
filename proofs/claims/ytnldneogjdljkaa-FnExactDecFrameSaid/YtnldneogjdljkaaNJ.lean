/- Raised numbers: contracts. -/
import Derived.Test.YtnldneogjdljkaaNE
import Derived.Test.YtnldneogjdljkaaL2
namespace Go.Lb
open Go.RowKit
def raiseP (n x : Int) : Bool := inR x 0 2000000000 && decide (n + x ≤ 1000000000)
def raiseV (n x : Int) : V := ⟨1, n + x, ⟨#[]⟩⟩
def raisedQ (n : Int) (q : List Int) : Option (List V) := if isNum n && q.all (raiseP n) then some (q.map (raiseV n)) else none
theorem raised_no1 {n : Int} {q : List Int} (h : isNum n = false) : raisedQ n q = none := by rw [raisedQ, h]; rfl
theorem raised_no2 {n : Int} {q : List Int} {i : Nat} {x : Int} (h : q[i]? = some x) (hp : raiseP n x = false) : raisedQ n q = none := by
  have ha : q.all (raiseP n) = false := by
    rw [Bool.eq_false_iff]
    intro h3
    rw [List.all_eq_true] at h3
    rw [h3 x (mem_of_get h)] at hp
    cases hp
  rw [raisedQ, ha, Bool.and_false]
  rfl
theorem raised_yes {n : Int} {q : List Int} (h1 : isNum n = true) (h2 : q.all (raiseP n) = true) : raisedQ n q = some (q.map (raiseV n)) := by rw [raisedQ, h1, h2]; rfl
theorem raised_some {n : Int} {q : List Int} {l : List V} (h : raisedQ n q = some l) : isNum n = true ∧ q.all (raiseP n) = true ∧ l = q.map (raiseV n) := by
  rw [raisedQ] at h
  split at h
  · rename_i h1
    simp only [Bool.and_eq_true] at h1
    injection h with h
    exact ⟨h1.1, h1.2, h.symm⟩
  · cases h
theorem rais_step {q : List Int} {i : Nat} {n x : Int} (h : q[i]? = some x) : (q.take (i + 1)).flatMap (fun x => (raiseV n x).cells) = (q.take i).flatMap (fun x => (raiseV n x).cells) ++ [.int .i64 1, .int .i64 (n + x), .string ⟨#[]⟩] := by
  rw [take_of_get h, List.flatMap_append]
  simp [raiseV, V.cells]
theorem allp_step {q : List Int} {i : Nat} {n : Int} {p : Int → Bool} (h : q[i]? = some n) (h1 : (q.take i).all p = true) (h2 : p n = true) : (q.take (i + 1)).all p = true := by
  rw [take_of_get h, List.all_append, h1]
  simp [h2]
theorem own_none_s (w : World) (e s lo hi : Nat) : Own e s w lo hi (.slice none 0 0) 0 [] := ⟨⟨by simp, .inl ⟨rfl, rfl⟩⟩, fun g hg => by simp [Value.ownBlock] at hg⟩
theorem rais_cells (n : Int) (q : List Int) : (q.map (raiseV n)).flatMap V.cells = q.flatMap (fun x => (raiseV n x).cells) := by rw [List.flatMap_map]
end Go.Lb
namespace Go.Proofs.Ytnldneogjdljkaa
open Go.Sort Go.ChangeShapes Go.WideShapes Go.ChangeAt Go.RowKit Go.Lb
set_option maxHeartbeats 4000000 in
set_option maxRecDepth 20000 in
theorem spec_Raised (n : Int) (q : List Int) (x : Value) (w : World) {lo hi : Nat} (hx : RdI w lo hi x q) (hhi : hi ≤ w.heap.size) (hq : q.length ≤ 1000000) :
    Calls Try.prog 62 #[.int .i64 n, x] w fun e w' => ∃ r, e = .returned (.tuple #[r, .bool (raisedQ n q).isSome]) ∧ Own 87 3 w' w.heap.size w'.heap.size r ((raisedQ n q).getD []).length (((raisedQ n q).getD []).flatMap V.cells) ∧ Below w.heap.size w w' := by
  obtain ⟨A, c, rfl, hl, hl2⟩ := hx.form
  obtain ⟨i0, hif, hz0, hz1, hz2⟩ := info_parts info_val
  replace hif := Lib.hid hif
  replace hz0 := Lib.hid hz0
  replace hz1 := Lib.hid hz1
  replace hz2 := Lib.hid hz2
  have own0 := World.ownsRow_made w (base := w.heap.size) (e := 87) (size := 3) #[] 0 (Nat.le_refl _) (by decide) rfl
  have hb0 := up_a1 w (.cells #[] 87)
  have hQ := fun W => q_spec_l1Right n W
  cases hI : Lb.isNum n
  · simp only [hI] at hQ
    have HQ := Lib.hid hQ
    have HG := Lib.hid (raised_no1 (q := q) hI)
    clear hQ hI
    go_enter Try.func62, Try.ntmps62
    go_wp2_with fail
    by_cases hz : q.length = 0
    · have hz' : (q.length : Int) = 0 := by omega
      go_loopw [6, 7] (fun o i wr => Hid (i = .int .i64 0 ∧ o = .slice (some ⟨w.heap.size, 0, none⟩) 0 0 ∧ wr = w.alloc (.cells #[] 87))) (fun _ _ _ => 0)
      case atStart => exact Lib.hid ⟨rfl, rfl, rfl⟩
      case round =>
        obtain ⟨rfl, rfl, rfl⟩ := hrel.out
        go_wp2_with fail
        refine (HQ.out _).mono ?_
        rintro e w1 ⟨rfl, rfl⟩
        go_wp2_with fail
        refine bodyPost_ret (v := .tuple #[.slice (some ⟨w.heap.size, 0, none⟩) 0 0, .bool false]) (by simp [results, Try.results62, go_sem]) rfl ⟨_, by rw [HG.out]; rfl, ?_, hb0⟩
        rw [HG.out]
        exact .new own0
    · have hz' : (0 : Int) < (q.length : Int) := by omega
      go_loopw [6, 7] (fun o i wr => Hid (i = .int .i64 0 ∧ o = .slice (some ⟨w.heap.size, 0, none⟩) 0 0 ∧ wr = w.alloc (.cells #[] 87))) (fun _ _ _ => 0)
      case atStart => exact Lib.hid ⟨rfl, rfl, rfl⟩
      case round =>
        obtain ⟨rfl, rfl, rfl⟩ := hrel.out
        go_wp2_with fail
        refine (HQ.out _).mono ?_
        rintro e w1 ⟨rfl, rfl⟩
        go_wp2_with fail
        refine bodyPost_ret (v := .tuple #[.slice (some ⟨(w.alloc (.cells #[] 87)).heap.size, 0, none⟩) 0 0, .bool false]) (by simp [results, Try.results62, go_sem]) rfl ⟨_, by rw [HG.out]; rfl, ?_, hb0.alloc hb0.size _⟩
        rw [HG.out]
        exact .new (World.ownsRow_made (w.alloc (.cells #[] 87)) (base := w.heap.size) (e := 87) (size := 3) #[] 0 hb0.size (by decide) rfl)
  · simp only [hI] at hQ
    have HQ := Lib.hid hQ
    have HI := Lib.hid hI
    have hnr := isNum_yes hI
    obtain ⟨hn0, hn1⟩ := hnr
    clear hQ hI
    go_enter Try.func62, Try.ntmps62
    go_wp2_with fail
    go_loopw [6, 7] (fun o i wr => ∃ j : Nat, Hid (i = .int .i64 j ∧ j ≤ q.length ∧ (q.take j).all (raiseP n) = true ∧ wr.ownsRow w.heap.size 87 3 o j ((q.take j).flatMap fun x => (raiseV n x).cells) ∧ Below w.heap.size w wr)) (fun _ i _ => q.length - (intOf i).toNat)
    case atStart => exact ⟨0, Lib.hid ⟨rfl, by omega, rfl, own0, hb0⟩⟩
    case round =>
      obtain ⟨j, hrel⟩ := hrel
      obtain ⟨rfl, hj, hall, hown, hb⟩ := hrel.out
      obtain ⟨Ao, co, rfl, -, -, -⟩ := (Own.new hown).cells
      have Hall := Lib.hid hall
      clear hrel hall
      have hbs := hb.size
      by_cases hjl : j < q.length
      · obtain ⟨b, off, x, rfl, -, hbl, hjk, e0⟩ := (hx.below hb hhi).at hjl
        have Hj := Lib.hid hjk
        clear hjk
        have hIn := q_spec_l1In x 0 2000000000 wr
        cases h1 : inR x 0 2000000000
        · rw [h1] at hIn
          have HIn := Lib.hid hIn
          have HG := Lib.hid (raised_no2 (n := n) Hj.out (by rw [raiseP, h1]; rfl))
          clear h1 hIn
          go_wp2_with fail
          refine (HQ.out _).mono ?_
          rintro e w1 ⟨rfl, rfl⟩
          go_wp2_with fail
          refine HIn.out.mono ?_
          rintro e w1 ⟨rfl, rfl⟩
          go_wp2_with fail
          refine bodyPost_ret (v := .tuple #[.slice (some ⟨wr.heap.size, 0, none⟩) 0 0, .bool false]) (by simp [results, Try.results62, go_sem]) rfl ⟨_, by rw [HG.out]; rfl, ?_, hb.alloc hb.size _⟩
          rw [HG.out]
          exact .new (World.ownsRow_made wr (base := w.heap.size) (e := 87) (size := 3) #[] 0 hb.size (by decide) rfl)
        · rw [h1] at hIn
          have HIn := Lib.hid hIn
          have hx01 := inR_yes h1
          obtain ⟨hx0, hx1⟩ := hx01
          by_cases h2 : n + x ≤ 1000000000
          · have Hall' := Lib.hid (allp_step Hj.out Hall.out (by rw [raiseP, h1, decide_eq_true h2]; rfl))
            have hd : decide (1000000000 < n + x) = false := decide_eq_false (by omega)
            have HC := Lib.hid (rais_step (n := n) Hj.out)
            clear h1 hIn
            go_wp2_with fail
            refine (HQ.out _).mono ?_
            rintro e w1 ⟨rfl, rfl⟩
            go_wp2_with fail
            refine HIn.out.mono ?_
            rintro e w1 ⟨rfl, rfl⟩
            go_wp2_with (at_builtin; refine wpl_app rfl _ _ 51 rfl w.heap.size 87 i0 _ 3 32 Try.underlying51 hif.out hz0.out hz1.out hz2.out rfl (by decide) (by decide) (hown.alloc _) rfl (heap_alloc_new _ _) rfl rfl (by simp [Value.oneCell']) (by omega) (by simp; omega) ?_)
            intro v' w3 hown' hgrow hnb
            have hb3 := Below.grown (hb.alloc hb.size _) hgrow (fun g hg => (hown.lt g hg).1) (Nat.le_refl _)
            have HO := Lib.hid (show w3.ownsRow w.heap.size 87 3 v' (j + 1) ((q.take (j + 1)).flatMap fun x => (raiseV n x).cells) by rw [HC.out]; exact hown')
            clear hown' hgrow hnb hown
            go_wp2_with fail
            go_roundw
            case rel => exact ⟨j + 1, Lib.hid ⟨by go_num, by omega, Hall'.out, HO.out, hb3⟩⟩
            case measure => simp [intOf]; omega
          · have HG := Lib.hid (raised_no2 (n := n) Hj.out (by rw [raiseP, h1, decide_eq_false h2]; rfl))
            have hd : decide (1000000000 < n + x) = true := decide_eq_true (by omega)
            clear h1 hIn
            go_wp2_with fail
            refine (HQ.out _).mono ?_
            rintro e w1 ⟨rfl, rfl⟩
            go_wp2_with fail
            refine HIn.out.mono ?_
            rintro e w1 ⟨rfl, rfl⟩
            go_wp2_with fail
            refine bodyPost_ret (v := .tuple #[.slice (some ⟨wr.heap.size, 0, none⟩) 0 0, .bool false]) (by simp [results, Try.results62, go_sem]) rfl ⟨_, by rw [HG.out]; rfl, ?_, hb.alloc hb.size _⟩
            rw [HG.out]
            exact .new (World.ownsRow_made wr (base := w.heap.size) (e := 87) (size := 3) #[] 0 hb.size (by decide) rfl)
      · obtain rfl : j = q.length := by omega
        have HG := Lib.hid (show raisedQ n q = some (q.map (raiseV n)) from raised_yes HI.out (by have h := Hall.out; rwa [List.take_length] at h))
        rw [List.take_length] at hown
        have Hown := Lib.hid hown
        clear hown
        go_wp2_with fail
        refine (HQ.out _).mono ?_
        rintro e w1 ⟨rfl, rfl⟩
        go_wp2_with fail
        refine bodyPost_ret (v := .tuple #[.slice Ao q.length co, .bool true]) (by simp [results, Try.results62, go_sem]) rfl ⟨_, by rw [HG.out]; rfl, ?_, hb⟩
        rw [HG.out]
        show Own _ 3 _ _ _ _ (q.map (raiseV n)).length ((q.map (raiseV n)).flatMap V.cells)
        rw [List.length_map, rais_cells]
        exact .new Hown.out
set_option maxHeartbeats 4000000 in
set_option maxRecDepth 20000 in
theorem impl_Raised (n : Int) (q : List Int) (x : Value) (w : World) {lo hi : Nat} (hx : RdI w lo hi x q) (hhi : hi ≤ w.heap.size) (hq : q.length ≤ 1000000) :
    Calls Try.prog 57 #[.int .i64 n, x] w fun e w' => ∃ r, e = .returned (.tuple #[r, .bool (raisedQ n q).isSome]) ∧ Own 87 3 w' w.heap.size w'.heap.size r ((raisedQ n q).getD []).length (((raisedQ n q).getD []).flatMap V.cells) ∧ Below w.heap.size w w' := by
  obtain ⟨A, c, rfl, hl, hl2⟩ := hx.form
  obtain ⟨i0, hif, hz0, hz1, hz2⟩ := info_parts info_val
  replace hif := Lib.hid hif
  replace hz0 := Lib.hid hz0
  replace hz1 := Lib.hid hz1
  replace hz2 := Lib.hid hz2
  have own0 := World.ownsRow_made w (base := w.heap.size) (e := 87) (size := 3) #[] 0 (Nat.le_refl _) (by decide) rfl
  have hb0 := up_a1 w (.cells #[] 87)
  have hQ := q_impl_isNum n w
  cases hI : Lb.isNum n
  · rw [hI] at hQ
    have HQ := Lib.hid hQ
    have HG := Lib.hid (raised_no1 (q := q) hI)
    have hbw : Below w.heap.size w w := Below.refl _ _
    clear hQ hI
    go_enter Try.func57, Try.ntmps57
    go_wp2_with fail
    refine HQ.out.mono ?_
    rintro e w1 ⟨rfl, rfl⟩
    go_wp2_with fail
    refine bodyPost_ret (v := .tuple #[.slice none 0 0, .bool false]) (by simp [results, Try.results57, go_sem]) rfl ⟨_, by rw [HG.out]; rfl, ?_, hbw⟩
    rw [HG.out]
    exact own_none_s _ _ _ _ _
  · rw [hI] at hQ
    have HQ := Lib.hid hQ
    have HI := Lib.hid hI
    have hnr := isNum_yes hI
    obtain ⟨hn0, hn1⟩ := hnr
    clear hQ hI
    go_enter Try.func57, Try.ntmps57
    go_wp2_with fail
    refine HQ.out.mono ?_
    rintro e w1 ⟨rfl, rfl⟩
    go_wp2_with fail
    go_loopw [6, 15] (fun o i wr => ∃ j : Nat, Hid (i = .int .i64 j ∧ j ≤ q.length ∧ (q.take j).all (raiseP n) = true ∧ wr.ownsRow w.heap.size 87 3 o j ((q.take j).flatMap fun x => (raiseV n x).cells) ∧ Below w.heap.size w wr)) (fun _ i _ => q.length - (intOf i).toNat)
    case atStart => exact ⟨0, Lib.hid ⟨rfl, by omega, rfl, own0, hb0⟩⟩
    case round =>
      obtain ⟨j, hrel⟩ := hrel
      obtain ⟨rfl, hj, hall, hown, hb⟩ := hrel.out
      obtain ⟨Ao, co, rfl, -, -, -⟩ := (Own.new hown).cells
      have Hall := Lib.hid hall
      clear hrel hall
      have hbs := hb.size
      by_cases hjl : j < q.length
      · obtain ⟨b, off, x, rfl, -, hbl, hjk, e0⟩ := (hx.below hb hhi).at hjl
        have Hj := Lib.hid hjk
        clear hjk
        have hIn := q_impl_within x 0 2000000000 wr
        cases h1 : inR x 0 2000000000
        · rw [h1] at hIn
          have HIn := Lib.hid hIn
          have HG := Lib.hid (raised_no2 (n := n) Hj.out (by rw [raiseP, h1]; rfl))
          clear h1 hIn
          go_wp2_with fail
          refine HIn.out.mono ?_
          rintro e w1 ⟨rfl, rfl⟩
          go_wp2_with fail
          refine bodyPost_ret (v := .tuple #[.slice none 0 0, .bool false]) (by simp [results, Try.results57, go_sem]) rfl ⟨_, by rw [HG.out]; rfl, ?_, hb⟩
          rw [HG.out]
          exact own_none_s _ _ _ _ _
        · rw [h1] at hIn
          have HIn := Lib.hid hIn
          have hx01 := inR_yes h1
          obtain ⟨hx0, hx1⟩ := hx01
          by_cases h2 : n + x ≤ 1000000000
          · have Hall' := Lib.hid (allp_step Hj.out Hall.out (by rw [raiseP, h1, decide_eq_true h2]; rfl))
            have hd : decide (1000000000 < n + x) = false := decide_eq_false (by omega)
            have HC := Lib.hid (rais_step (n := n) Hj.out)
            clear h1 hIn
            go_wp2_with fail
            refine HIn.out.mono ?_
            rintro e w1 ⟨rfl, rfl⟩
            go_wp2_with (at_builtin; refine wpl_app rfl _ _ 51 rfl w.heap.size 87 i0 _ 3 32 Try.underlying51 hif.out hz0.out hz1.out hz2.out rfl (by decide) (by decide) (hown.alloc _) rfl (heap_alloc_new _ _) rfl rfl (by simp [Value.oneCell']) (by omega) (by simp; omega) ?_)
            intro v' w3 hown' hgrow hnb
            have hb3 := Below.grown (hb.alloc hb.size _) hgrow (fun g hg => (hown.lt g hg).1) (Nat.le_refl _)
            have HO := Lib.hid (show w3.ownsRow w.heap.size 87 3 v' (j + 1) ((q.take (j + 1)).flatMap fun x => (raiseV n x).cells) by rw [HC.out]; exact hown')
            clear hown' hgrow hnb hown
            go_wp2_with fail
            go_roundw
            case rel => exact ⟨j + 1, Lib.hid ⟨by go_num, by omega, Hall'.out, HO.out, hb3⟩⟩
            case measure => simp [intOf]; omega
          · have HG := Lib.hid (raised_no2 (n := n) Hj.out (by rw [raiseP, h1, decide_eq_false h2]; rfl))
            have hd : decide (1000000000 < n + x) = true := decide_eq_true (by omega)
            clear h1 hIn
            go_wp2_with fail
            refine HIn.out.mono ?_
            rintro e w1 ⟨rfl, rfl⟩
            go_wp2_with fail
            refine bodyPost_ret (v := .tuple #[.slice none 0 0, .bool false]) (by simp [results, Try.results57, go_sem]) rfl ⟨_, by rw [HG.out]; rfl, ?_, hb⟩
            rw [HG.out]
            exact own_none_s _ _ _ _ _
      · obtain rfl : j = q.length := by omega
        have HG := Lib.hid (show raisedQ n q = some (q.map (raiseV n)) from raised_yes HI.out (by have h := Hall.out; rwa [List.take_length] at h))
        rw [List.take_length] at hown
        have Hown := Lib.hid hown
        clear hown
        go_wp2_with fail
        refine bodyPost_ret (v := .tuple #[.slice Ao q.length co, .bool true]) (by simp [results, Try.results57, go_sem]) rfl ⟨_, by rw [HG.out]; rfl, ?_, hb⟩
        rw [HG.out]
        show Own _ 3 _ _ _ _ (q.map (raiseV n)).length ((q.map (raiseV n)).flatMap V.cells)
        rw [List.length_map, rais_cells]
        exact .new Hown.out
end Go.Proofs.Ytnldneogjdljkaa
