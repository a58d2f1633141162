/- FnExactPlayHouses: the program's PlayHouses answers as the reference's does, whatever it is given. -/
import Derived.Test.YtfemdpdnnifehaaPHx0
import Derived.Test.YtfemdpdnnifehaaPHx8
import Derived.Test.YtfemdpdnnifehaaHIntc
import Derived.Test.YtfemdpdnnifehaaHAskd
import Derived.Test.YtfemdpdnnifehaaHPH
import Derived.Test.YtfemdpdnnifehaaHMark
-- NEEDS HIntc
-- NEEDS HAskd
-- NEEDS HPH
-- NEEDS HMark
set_option linter.unusedVariables false
set_option linter.unusedSimpArgs false
namespace Go.Proofs.Ytfemdpdnnifehaa.PH
open Go.RowKit Go.Proofs.YtfemdpdnnifehaaW.PrintWords Go.Proofs.YtfemdpdnnifehaaW.PrintLast

theorem play_both (a0 : Int) (l1 l2 : List Int) : ∃ (xs : List S51) (b : Bool), xs.length ≤ 24 ∧
    (∀ W A c A' c', Kd.C (Kd.int .i64) W A l1.length l1 → l1.length ≤ c → Kd.C (Kd.int .i64) W A' l2.length l2 → l2.length ≤ c' → Calls Try.prog 14 #[.int .i64 a0, .slice A l1.length c, .slice A' l2.length c'] W fun e w' => ∃ v0_ : Value, e = .returned (.tuple #[v0_, .bool b]) ∧ Kd.R k51 51 w' W.heap.size (fun _ => True) v0_ xs ∧ Below W.heap.size W w') ∧
    (∀ W A c A' c', Kd.C (Kd.int .i64) W A l1.length l1 → l1.length ≤ c → Kd.C (Kd.int .i64) W A' l2.length l2 → l2.length ≤ c' → Calls Try.prog 15 #[.int .i64 a0, .slice A l1.length c, .slice A' l2.length c'] W fun e w' => ∃ v0_ : Value, e = .returned (.tuple #[v0_, .bool b]) ∧ Kd.R k51 51 w' W.heap.size (fun _ => True) v0_ xs ∧ Below W.heap.size W w') := by
  obtain ⟨k, hs⟩ := Ev.rounds (specPlay_ev a0 l1 l2)
  exact ⟨(phAns a0 l1 l2).1, (phAns a0 l1 l2).2, phAns_short a0 l1 l2, fun W A c A' c' h1 hc1 h2 hc2 => spec_PlayHouses.calls k a0 A c l1 A' c' l2 _ _ W h1 hc1 h2 hc2 hs, fun W A c A' c' h1 hc1 h2 hc2 => impl_PlayHouses.calls a0 A c l1 A' c' l2 _ _ W h1 hc1 h2 hc2 rfl⟩

set_option maxHeartbeats 8000000 in
set_option maxRecDepth 100000 in
theorem lawT_FnExactPlayHouses.told (a0 : Int) (A1 : Option Addr) (c1 : Nat) (l1 : List Int) (A2 : Option Addr) (c2 : Nat) (l2 : List Int) (w : World) (hr1 : Kd.C (Kd.int .i64) w A1 l1.length l1) (hr2 : Kd.C (Kd.int .i64) w A2 l2.length l2) (y1 : l1.length * 8 ≤ 140737488351232) (y2 : l2.length * 8 ≤ 140737488351232) :
    Calls Try.prog 5 #[.int .i64 a0, .slice A1 l1.length c1, .slice A2 l2.length c2] w fun e w' => e = .returned (.bool true) ∧ Below w.heap.size w w' := by
  have HR1 := Aside0.mk hr1
  have HR2 := Aside0.mk hr2
  clear hr1 hr2
  obtain ⟨xs, b, hxs, hS, hI⟩ := play_both a0 l1 l2
  have HS := Aside0.mk hS
  have HI := Aside0.mk hI
  have HXS := Aside0.mk hxs
  clear hS hI hxs
  by_cases hbig : 1000000 < (l1.length : Int) + (l2.length : Int)
  · have hd : decide (1000000 < (l1.length : Int) + (l2.length : Int)) = true := decide_eq_true hbig
    go_enter Try.func5, Try.ntmps5
    go_wp2
    go_ret
    exact ⟨rfl, Below.refl _ _⟩
  · have hd : decide (1000000 < (l1.length : Int) + (l2.length : Int)) = false := decide_eq_false hbig
    have hn1 : l1.length ≤ 1000000 := by omega
    have hn2 : l2.length ≤ 1000000 := by omega
    have HB0 := Aside0.mk (Below.refl w.heap.size w)
    have HN1 := Aside0.mk hn1
    have HN2 := Aside0.mk hn2
    go_enter Try.func5, Try.ntmps5
    go_wp2_with fail
    (with_reducible refine (toIntS_false A1 c1 l1 _ (Kd.C_below HR1.out HB0.out) HN1.out).mono ?_)
    rintro e w1 ⟨g1, rfl, hge, hk, hb⟩
    have HK1 := Aside0.mk hk
    have HG1 := Aside0.mk (Nat.le_trans HB0.out.size hge)
    have HH1 := Aside0.mk hge
    have HE1 := Aside0.mk hb
    have HB1 := Aside0.mk (HB0.out.trans (hb.mono HB0.out.size))
    clear hb hk hge
    go_wp2_with fail
    (with_reducible refine (toIntS_false A2 c2 l2 _ (Kd.C_below HR2.out HB1.out) HN2.out).mono ?_)
    rintro e w2 ⟨g2, rfl, hge, hk, hb⟩
    have HK2 := Aside0.mk hk
    have HG2 := Aside0.mk (Nat.le_trans HB1.out.size hge)
    have HH2 := Aside0.mk hge
    have HE2 := Aside0.mk hb
    have HB2 := Aside0.mk (HB1.out.trans (hb.mono HB1.out.size))
    clear hb hk hge
    go_wp2_with fail
    (with_reducible refine (HS.out _ _ _ _ _ (IntBlk.reads (l := l1) (xs := List.replicate (room l1.length) filler) (HK1.out.below HE2.out) (by have := HN1.out; omega)) (by rw [fullI_length]; omega) (IntBlk.reads (l := l2) (xs := List.replicate (room l2.length) filler) HK2.out (by have := HN2.out; omega)) (by rw [fullI_length]; omega)).mono ?_)
    rintro e w3 ⟨va, rfl, hrow, hb⟩
    have HVa := Aside0.mk hrow
    have HLa := Aside0.mk (Kd.R_lt hrow)
    have HMa := Aside0.mk (Kd.R_base hrow)
    have HE3 := Aside0.mk hb
    have HB3 := Aside0.mk (HB2.out.trans (hb.mono HB2.out.size))
    clear hb hrow
    obtain ⟨Ava, cva, eva⟩ := Kd.R_slice HVa.out
    subst eva
    go_wp2_with fail
    (with_reducible refine (toIntS_false A1 c1 l1 _ (Kd.C_below HR1.out HB3.out) HN1.out).mono ?_)
    rintro e w4 ⟨g3, rfl, hge, hk, hb⟩
    have HK3 := Aside0.mk hk
    have HG3 := Aside0.mk (Nat.le_trans HB3.out.size hge)
    have HH3 := Aside0.mk hge
    have HE4 := Aside0.mk hb
    have HB4 := Aside0.mk (HB3.out.trans (hb.mono HB3.out.size))
    clear hb hk hge
    go_wp2_with fail
    (with_reducible refine (toIntS_false A2 c2 l2 _ (Kd.C_below HR2.out HB4.out) HN2.out).mono ?_)
    rintro e w5 ⟨g4, rfl, hge, hk, hb⟩
    have HK4 := Aside0.mk hk
    have HG4 := Aside0.mk (Nat.le_trans HB4.out.size hge)
    have HH4 := Aside0.mk hge
    have HE5 := Aside0.mk hb
    have HB5 := Aside0.mk (HB4.out.trans (hb.mono HB4.out.size))
    clear hb hk hge
    go_wp2_with fail
    (with_reducible refine (HI.out _ _ _ _ _ (IntBlk.reads (l := l1) (xs := List.replicate (room l1.length) filler) (HK3.out.below HE5.out) (by have := HN1.out; omega)) (by rw [fullI_length]; omega) (IntBlk.reads (l := l2) (xs := List.replicate (room l2.length) filler) HK4.out (by have := HN2.out; omega)) (by rw [fullI_length]; omega)).mono ?_)
    rintro e w6 ⟨vb, rfl, hrow, hb⟩
    have HVb := Aside0.mk hrow
    have HLb := Aside0.mk (Kd.R_lt hrow)
    have HMb := Aside0.mk (Kd.R_base hrow)
    have HE6 := Aside0.mk hb
    have HB6 := Aside0.mk (HB5.out.trans (hb.mono HB5.out.size))
    clear hb hrow
    obtain ⟨Avb, cvb, evb⟩ := Kd.R_slice HVb.out
    subst evb
    go_wp2_with fail
    (with_reducible refine (eqDrops_true xs HXS.out _ _ _ _ _ (Kd.R_reads' HVb.out).2.2 (Kd.R_reads' HVb.out).2.1 (Kd.R_reads' (Kd.R_below (Kd.R_below (Kd.R_below HVa.out HE4.out) HE5.out) HE6.out)).2.2 (Kd.R_reads' (Kd.R_below (Kd.R_below (Kd.R_below HVa.out HE4.out) HE5.out) HE6.out)).2.1).mono ?_)
    rintro e w7 ⟨rfl, hb⟩
    have HE7 := Aside0.mk hb
    have HB7 := Aside0.mk (HB6.out.trans (hb.mono HB6.out.size))
    clear hb 
    go_wp2_with fail
    (with_reducible refine (toIntS_false A1 c1 l1 _ (Kd.C_below HR1.out HB7.out) HN1.out).mono ?_)
    rintro e w8 ⟨g5, rfl, hge, hk, hb⟩
    have HK5 := Aside0.mk hk
    have HG5 := Aside0.mk (Nat.le_trans HB7.out.size hge)
    have HH5 := Aside0.mk hge
    have HE8 := Aside0.mk hb
    have HB8 := Aside0.mk (HB7.out.trans (hb.mono HB7.out.size))
    clear hb hk hge
    go_wp2_with fail
    (with_reducible refine (intact_true l1 _ _ _ ((((HK3.out.below HE5.out).below HE6.out).below HE7.out).below HE8.out) HK5.out HN1.out).mono ?_)
    rintro e w9 ⟨rfl, ⟨hd⟩⟩
    have hb : Below w8.heap.size w8 w9 := by
      obtain ⟨n, rfl⟩ := hd
      exact pw_below_drewN (Below.refl _ _) _
    clear hd
    have HE9 := Aside0.mk hb
    have HB9 := Aside0.mk (HB8.out.trans (hb.mono HB8.out.size))
    clear hb 
    go_wp2_with fail
    (with_reducible refine (toIntS_false A2 c2 l2 _ (Kd.C_below HR2.out HB9.out) HN2.out).mono ?_)
    rintro e w10 ⟨g6, rfl, hge, hk, hb⟩
    have HK6 := Aside0.mk hk
    have HG6 := Aside0.mk (Nat.le_trans HB9.out.size hge)
    have HH6 := Aside0.mk hge
    have HE10 := Aside0.mk hb
    have HB10 := Aside0.mk (HB9.out.trans (hb.mono HB9.out.size))
    clear hb hk hge
    go_wp2_with fail
    (with_reducible refine (intact_true l2 _ _ _ (((((HK4.out.below HE6.out).below HE7.out).below HE8.out).below HE9.out).below HE10.out) HK6.out HN2.out).mono ?_)
    rintro e w11 ⟨rfl, ⟨hd⟩⟩
    have hb : Below w10.heap.size w10 w11 := by
      obtain ⟨n, rfl⟩ := hd
      exact pw_below_drewN (Below.refl _ _) _
    clear hd
    have HE11 := Aside0.mk hb
    have HB11 := Aside0.mk (HB10.out.trans (hb.mono HB10.out.size))
    clear hb 
    go_wp2_with fail
    (with_reducible refine (markFull w l1 _ 101 _ HB11.out HG3.out (((((((HK3.out.below HE5.out).below HE6.out).below HE7.out).below HE8.out).below HE9.out).below HE10.out).below HE11.out) HN1.out (by omega) (by omega)).mono ?_)
    rintro e w12 ⟨rfl, hg, hb⟩
    have HN12_4 : Aside0 (g4 ≠ g3) := ⟨by have h1 := HH4.out; have h2 := HK3.out.lt; omega⟩
    have HNR12_a : Aside0 (∀ k, some g3 = some k → some k ≠ (Value.slice Ava xs.length cva).ownBlock) := ⟨fun k he hk' => by
      injection he with he
      subst he
      have hk := hk'.symm
      have h1 := HLa.out _ hk; have h2 := HH3.out; have h3 := HE4.out.size; omega⟩
    have HNR12_b : Aside0 (∀ k, some g3 = some k → some k ≠ (Value.slice Avb xs.length cvb).ownBlock) := ⟨fun k he hk' => by
      injection he with he
      subst he
      have hk := hk'.symm
      have h1 := HMb.out _ hk; have h2 := HK3.out.lt; have h3 := HE5.out.size; omega⟩
    have HE12 := Aside0.mk hg
    have HB12 := Aside0.mk hb
    clear hg hb 
    go_wp2_with fail
    (with_reducible refine (markFull w l2 _ (101 + (l1.length : Int)) _ HB12.out HG4.out (((((((HK4.out.below HE6.out).below HE7.out).below HE8.out).below HE9.out).below HE10.out).below HE11.out).grown HE12.out HN12_4.out) HN2.out (by omega) (by omega)).mono ?_)
    rintro e w13 ⟨rfl, hg, hb⟩
    have HNR13_a : Aside0 (∀ k, some g4 = some k → some k ≠ (Value.slice Ava xs.length cva).ownBlock) := ⟨fun k he hk' => by
      injection he with he
      subst he
      have hk := hk'.symm
      have h1 := HLa.out _ hk; have h2 := HH4.out; have h3 := HE4.out.size; omega⟩
    have HNR13_b : Aside0 (∀ k, some g4 = some k → some k ≠ (Value.slice Avb xs.length cvb).ownBlock) := ⟨fun k he hk' => by
      injection he with he
      subst he
      have hk := hk'.symm
      have h1 := HMb.out _ hk; have h2 := HK4.out.lt; have h3 := HE5.out.size; omega⟩
    have HE13 := Aside0.mk hg
    have HB13 := Aside0.mk hb
    clear hg hb 
    have hk0 : decide (101 + (l1.length : Int) + (l2.length : Int) < 0) = false := decide_eq_false (by omega)
    go_wp2_with fail
    (with_reducible refine (eqDrops_true xs HXS.out _ _ _ _ _ (Kd.R_reads' (Kd.R_grown2 (Kd.R_grown2 (Kd.R_below (Kd.R_below (Kd.R_below (Kd.R_below (Kd.R_below HVb.out HE7.out) HE8.out) HE9.out) HE10.out) HE11.out) rfl HE12.out HNR12_b.out) rfl HE13.out HNR13_b.out)).2.2 (Kd.R_reads' (Kd.R_grown2 (Kd.R_grown2 (Kd.R_below (Kd.R_below (Kd.R_below (Kd.R_below (Kd.R_below HVb.out HE7.out) HE8.out) HE9.out) HE10.out) HE11.out) rfl HE12.out HNR12_b.out) rfl HE13.out HNR13_b.out)).2.1 (Kd.R_reads' (Kd.R_grown2 (Kd.R_grown2 (Kd.R_below (Kd.R_below (Kd.R_below (Kd.R_below (Kd.R_below (Kd.R_below (Kd.R_below (Kd.R_below HVa.out HE4.out) HE5.out) HE6.out) HE7.out) HE8.out) HE9.out) HE10.out) HE11.out) rfl HE12.out HNR12_a.out) rfl HE13.out HNR13_a.out)).2.2 (Kd.R_reads' (Kd.R_grown2 (Kd.R_grown2 (Kd.R_below (Kd.R_below (Kd.R_below (Kd.R_below (Kd.R_below (Kd.R_below (Kd.R_below (Kd.R_below HVa.out HE4.out) HE5.out) HE6.out) HE7.out) HE8.out) HE9.out) HE10.out) HE11.out) rfl HE12.out HNR12_a.out) rfl HE13.out HNR13_a.out)).2.1).mono ?_)
    rintro e w14 ⟨rfl, hb⟩
    have HE14 := Aside0.mk hb
    have HB14 := Aside0.mk (HB13.out.trans (hb.mono HB13.out.size))
    clear hb 
    go_wp2_with fail
    obtain ⟨m, ys, hm0, hys, hmark, hheld⟩ := markDrops_told w xs HXS.out (.slice Avb xs.length cvb) w14 HB14.out (Kd.R_reok rfl (Kd.R_lower (Kd.R_below (Kd.R_grown2 (Kd.R_grown2 (Kd.R_below (Kd.R_below (Kd.R_below (Kd.R_below (Kd.R_below HVb.out HE7.out) HE8.out) HE9.out) HE10.out) HE11.out) rfl HE12.out HNR12_b.out) rfl HE13.out HNR13_b.out) HE14.out) HB5.out.size) (fun k hk => hk))
    have HHELD := Aside0.mk hheld
    have HYS := Aside0.mk hys
    clear hheld hys hk0
    have hm1 : decide (m < 0) = false := decide_eq_false (by omega)
    (with_reducible refine hmark.mono ?_)
    clear hmark
    rintro e w15 ⟨rfl, hrow, hb, hg⟩
    have HVy := Aside0.mk hrow
    have HNR15_a : Aside0 (∀ k, (Value.slice Avb xs.length cvb).ownBlock = some k → some k ≠ (Value.slice Ava xs.length cva).ownBlock) := ⟨fun k hk hk2 => by
      have h1 := HMb.out _ hk
      have h2 := HLa.out _ hk2.symm
      have h3 := HE4.out.size
      have h4 := HE5.out.size
      omega⟩
    have HE15 := Aside0.mk hg
    have HB15 := Aside0.mk hb
    clear hg hb hrow
    go_wp2_with fail
    (with_reducible refine (HHELD.out _ _ _ (by have h := (Kd.R_reads' HVy.out).2.2; exact h) (by have h := (Kd.R_reads' HVy.out).2.1; have h2 := HYS.out; omega)).mono ?_)
    rintro e w16 ⟨rfl, ⟨hd⟩⟩
    have hb : Below w15.heap.size w15 w16 := by
      obtain ⟨n, rfl⟩ := hd
      exact pw_below_drewN (Below.refl _ _) _
    clear hd
    have HE16 := Aside0.mk hb
    have HB16 := Aside0.mk (HB15.out.trans (hb.mono HB15.out.size))
    clear hb 
    go_wp2_with fail
    (with_reducible refine (toIntS_bare A1 c1 l1 _ (Kd.C_below HR1.out HB16.out) HN1.out).mono ?_)
    rintro e w17 ⟨B7, d7, rfl, hc7, hr7, hb⟩
    have HC7 := Aside0.mk hc7
    have HR7 := Aside0.mk hr7
    have HE17 := Aside0.mk hb
    have HB17 := Aside0.mk (HB16.out.trans (hb.mono HB16.out.size))
    clear hb hc7 hr7
    go_wp2_with fail
    (with_reducible refine (toIntS_bare A2 c2 l2 _ (Kd.C_below HR2.out HB17.out) HN2.out).mono ?_)
    rintro e w18 ⟨B8, d8, rfl, hc8, hr8, hb⟩
    have HC8 := Aside0.mk hc8
    have HR8 := Aside0.mk hr8
    have HE18 := Aside0.mk hb
    have HB18 := Aside0.mk (HB17.out.trans (hb.mono HB17.out.size))
    clear hb hc8 hr8
    go_wp2_with fail
    (with_reducible refine (HI.out _ _ _ _ _ (Kd.C_below HR7.out HE18.out) HC7.out HR8.out HC8.out).mono ?_)
    rintro e w19 ⟨vc, rfl, hrow, hb⟩
    have HVc := Aside0.mk hrow
    have HLc := Aside0.mk (Kd.R_lt hrow)
    have HMc := Aside0.mk (Kd.R_base hrow)
    have HE19 := Aside0.mk hb
    have HB19 := Aside0.mk (HB18.out.trans (hb.mono HB18.out.size))
    clear hb hrow
    obtain ⟨Avc, cvc, evc⟩ := Kd.R_slice HVc.out
    subst evc
    go_wp2_with fail
    (with_reducible refine (eqDrops_true xs HXS.out _ _ _ _ _ (Kd.R_reads' HVc.out).2.2 (Kd.R_reads' HVc.out).2.1 (Kd.R_reads' (Kd.R_below (Kd.R_below (Kd.R_below (Kd.R_below (Kd.R_grown2 (Kd.R_below (Kd.R_grown2 (Kd.R_grown2 (Kd.R_below (Kd.R_below (Kd.R_below (Kd.R_below (Kd.R_below (Kd.R_below (Kd.R_below (Kd.R_below HVa.out HE4.out) HE5.out) HE6.out) HE7.out) HE8.out) HE9.out) HE10.out) HE11.out) rfl HE12.out HNR12_a.out) rfl HE13.out HNR13_a.out) HE14.out) rfl HE15.out HNR15_a.out) HE16.out) HE17.out) HE18.out) HE19.out)).2.2 (Kd.R_reads' (Kd.R_below (Kd.R_below (Kd.R_below (Kd.R_below (Kd.R_grown2 (Kd.R_below (Kd.R_grown2 (Kd.R_grown2 (Kd.R_below (Kd.R_below (Kd.R_below (Kd.R_below (Kd.R_below (Kd.R_below (Kd.R_below (Kd.R_below HVa.out HE4.out) HE5.out) HE6.out) HE7.out) HE8.out) HE9.out) HE10.out) HE11.out) rfl HE12.out HNR12_a.out) rfl HE13.out HNR13_a.out) HE14.out) rfl HE15.out HNR15_a.out) HE16.out) HE17.out) HE18.out) HE19.out)).2.1).mono ?_)
    rintro e w20 ⟨rfl, hb⟩
    have HE20 := Aside0.mk hb
    have HB20 := Aside0.mk (HB19.out.trans (hb.mono HB19.out.size))
    clear hb 
    go_wp2_with fail
    (with_reducible refine (HHELD.out _ _ _ (by have h := (Kd.R_reads' (Kd.R_below (Kd.R_below (Kd.R_below (Kd.R_below (Kd.R_below HVy.out HE16.out) HE17.out) HE18.out) HE19.out) HE20.out)).2.2; exact h) (by have h := (Kd.R_reads' (Kd.R_below (Kd.R_below (Kd.R_below (Kd.R_below (Kd.R_below HVy.out HE16.out) HE17.out) HE18.out) HE19.out) HE20.out)).2.1; have h2 := HYS.out; omega)).mono ?_)
    rintro e w21 ⟨rfl, ⟨hd⟩⟩
    have hb : Below w20.heap.size w20 w21 := by
      obtain ⟨n, rfl⟩ := hd
      exact pw_below_drewN (Below.refl _ _) _
    clear hd
    have HE21 := Aside0.mk hb
    have HB21 := Aside0.mk (HB20.out.trans (hb.mono HB20.out.size))
    clear hb 
    go_wp2
    go_ret
    exact ⟨rfl, HB21.out⟩

theorem lawT_FnExactPlayHouses.walk (a0 : Int) (a1 : Option Addr) (len1 cap1 : Nat) (z1 : List Int) (a2 : Option Addr) (len2 cap2 : Nat) (z2 : List Int) (w : World) (w1 : (a1 = none ∧ len1 = 0 ∧ cap1 = 0 ∧ z1 = []) ∨ ∃ x, a1 = some x ∧ len1 ≤ cap1 ∧ cap1 ≤ maxLen ∧ z1.length = cap1 ∧ (∀ i, i < z1.length → w.cell? (x.add i) = some (.int .i64 (z1.getD i 0))) ∧ ∀ n ∈ z1, (Lit.int .i64 n).wf = true) (y1 : len1 * 8 ≤ 140737488351232) (w2 : (a2 = none ∧ len2 = 0 ∧ cap2 = 0 ∧ z2 = []) ∨ ∃ x, a2 = some x ∧ len2 ≤ cap2 ∧ cap2 ≤ maxLen ∧ z2.length = cap2 ∧ (∀ i, i < z2.length → w.cell? (x.add i) = some (.int .i64 (z2.getD i 0))) ∧ ∀ n ∈ z2, (Lit.int .i64 n).wf = true) (y2 : len2 * 8 ≤ 140737488351232) :
    Calls Try.prog 5 #[.int .i64 a0, .slice a1 len1 cap1, .slice a2 len2 cap2] w fun e w' => e = .returned (.bool true) ∧ Below w.heap.size w w' := by
  obtain ⟨l1, rfl, hr1, hm1, hw1, hc1⟩ := ReadsInt.ofRowC w1
  obtain ⟨l2, rfl, hr2, hm2, hw2, hc2⟩ := ReadsInt.ofRowC w2
  exact lawT_FnExactPlayHouses.told a0 _ _ l1 _ _ l2 w (Kd.C_of_reads (d := (0 : Int)) (h1 := fun _ => rfl) hr1) (Kd.C_of_reads (d := (0 : Int)) (h1 := fun _ => rfl) hr2) y1 y2

end Go.Proofs.Ytfemdpdnnifehaa.PH
