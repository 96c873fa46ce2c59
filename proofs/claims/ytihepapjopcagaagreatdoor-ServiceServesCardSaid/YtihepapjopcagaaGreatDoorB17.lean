/- A bundle of texts: Over, BsMath, Bs. -/
import Derived.Test.YtihepapjopcagaaGreatDoorB16
import Derived.Lib.TrailingZeros
import Derived.Test.YtihepapjopcagaaGreatDoorB03
import Derived.Test.YtihepapjopcagaaGreatDoorProg
import Derived.Laws.Bits64b
import Derived.RegionTactic
import Derived.BigRegion
/- Layer 14: Reach with an error; Overlap. -/
section
namespace Go.Proofs.YtihepapjopcagaaGreatDoor
open Go Go.RowKit
set_option maxRecDepth 100000

set_option maxHeartbeats 4000000 in
theorem reach_no (W H : Int) (GA PA : Option Addr) (gc pc : Nat) (G P : List Int) (LA : Option Addr) (lc : Nat) (es : List SE) (w : World) (hg : Sl 1 icell w w.heap.size GA G) (hp : Sl 1 icell w w.heap.size PA P) (hL : Sl 8 secell w w.heap.size LA es) (hP : Pats w es)
    (hl : es.length ≤ 1000) (hgl : G.length ≤ 9223372036854775806) (hpl : P.length ≤ 9223372036854775806) (hpe : ∀ e ∈ es, e.s.pat.length ≤ 1000) (hno : M.chk W H G P (es.map (·.s)) = 2) :
    Calls Tryz.prog 24 #[tv W H GA PA G.length gc P.length pc, .slice LA es.length lc] w fun e w' => e = .returned (.tuple #[.int .i64 0, .int .i64 2]) ∧ Below w.heap.size w w' := by
  obtain ⟨V, HW, x0, hB, -⟩ := boxes1 w #[.int .i64 W, .int .i64 H, .slice GA G.length gc, .slice PA P.length pc] 30
  obtain ⟨c0, c1, c2, c3⟩ := x0.c4
  have hV := HW.out
  have k := check_any W H GA PA gc pc G P LA lc es V ((hg.below hB).more hB.size) ((hp.below hB).more hB.size) ((hL.below hB).more hB.size) (hP.below hB) hgl hpl (by omega) hpe
  rw [hno] at k
  clear hno
  go_enter Tryz.func24, Tryz.ntmps24
  go_wp2_with fail
  clear hV
  refine k.mono ?_
  rintro e w1 ⟨rfl, hb1⟩
  go_wp2_with fail
  go_ret2
  exact ⟨rfl, after_ hB hb1⟩

theorem coveredBy_ex (W H : Int) (GA PA : Option Addr) (gc pc : Nat) (G P : List Int) (s : St) (A : Option Addr) (c : Nat) (w w2 : World) (hb : Below w.heap.size w w2) (ht : Tab w) (hg : Sl 1 icell w w.heap.size GA G) (hp : Sl 1 icell w w.heap.size PA P) (hS : Sl 1 icell w w.heap.size A s.pat) :
    Calls Tryz.prog 40 #[tv W H GA PA G.length gc P.length pc, stv s A c] w2 fun e w' => ∃ bt bs, e = .returned (fv bt bs) ∧ Below w2.heap.size w2 w' ∧ Capt w' bt bs W H GA PA gc pc G P s A c :=
  (coveredBy_ok W H GA PA gc pc G P s A c w2).mono fun _ _ ⟨he, hb', _, z0, z1⟩ => ⟨_, _, he, hb', z0, z1, (hg.below (after_ hb hb')).more (after_ hb hb').size, (hp.below (after_ hb hb')).more (after_ hb hb').size, (hS.below (after_ hb hb')).more (after_ hb hb').size, ht.kept (after_ hb hb')⟩
theorem cells_ex (W H : Int) (GA PA : Option Addr) (gc pc gl pl : Nat) (ca : Option Addr) (cn cc : Nat) (w : World) :
    Calls Tryz.prog 39 #[tv W H GA PA gl gc pl pc, .slice ca cn cc] w fun e w' => ∃ b1 b2, e = .returned (cvv b1 b2) ∧ Below w.heap.size w w' ∧ Box w' b1 #[.int .i64 W, .int .i64 H, .slice GA gl gc, .slice PA pl pc] 30 ∧ Box w' b2 #[.slice ca cn cc] 95 :=
  (cells_ok W H GA PA gc pc gl pl ca cn cc w).mono fun _ _ ⟨he, hb', _, z0, z1⟩ => ⟨_, _, he, hb', z0, z1⟩
theorem collectL_ok {W H : Int} {GA PA : Option Addr} {gc pc : Nat} {G P : List Int} (cs : List CE) (b1 b2 : Nat) (ca : Option Addr) (cc : Nat) (w : World) (hK : CellsK W H GA PA gc pc G P cs b1 b2 ca cc w) (hl : cs.length ≤ 1000) (htv : M.tvalid W H G P = true) (hok : ∀ e ∈ cs, M.okS W H G P e.s = true) :
    Calls Tryz.prog 38 #[cvv b1 b2] w (RetS 1 icell w (M.cellsTo W G cs (W * H).toNat)) := by
  obtain ⟨r1, r2, -⟩ := M.tvalid_iff.1 htv
  obtain ⟨wh1, wh2⟩ := M.wh_le r1 r2
  have hlen := M.cellsTo_len W G cs (W * H).toNat
  have hseq := SeqP.bel (w := w) (N := 4096) (cellsL_seq (GA := GA) (PA := PA) (gc := gc) (pc := pc) cs b1 b2 ca cc hl htv hok) (fun W' hb => hK.below hb) (by omega)
  refine Calls.mono (callsIn_wide.1 (collect_in Fence.wide 11 trivial trivial rfl (by decide) 58 _ trivial (enters_of Tryz.func58 (by kernel_rfl) rfl) _ _ (by unfold maxLen; omega) (by omega) w hseq)) ?_
  rintro e wd ⟨v, ss, rfl, rfl, hrow, -, hbd⟩
  rw [← flat_ints] at hrow
  obtain ⟨A9, c9, rfl, hS9⟩ := own_slice (by decide) hrow
  exact ⟨A9, c9, rfl, hS9, hbd⟩

theorem held123 {w' : World} {b0 b1 b2 : Nat} {W H : Int} {GA PA : Option Addr} {gc pc : Nat} {G P : List Int} {s t : St} {A B : Option Addr} {c d : Nat} (h0 : Box w' b0 #[.int .i64 W, .int .i64 H, .slice GA G.length gc, .slice PA P.length pc] 30) (h1 : Box w' b1 (stc s A c) 34) (h2 : Box w' b2 (stc t B d) 34) :
    w'.cell? ⟨b0, 0, none⟩ = some (.int .i64 W) ∧ w'.cell? ⟨b0, 1, none⟩ = some (.int .i64 H) ∧ w'.cell? ⟨b0, 2, none⟩ = some (.slice GA G.length gc) ∧ w'.cell? ⟨b0, 3, none⟩ = some (.slice PA P.length pc) ∧ w'.cell? ⟨b1, 0, none⟩ = some (.int .i64 s.id) ∧ w'.cell? ⟨b1, 1, none⟩ = some (.int .i64 s.x) ∧ w'.cell? ⟨b1, 2, none⟩ = some (.int .i64 s.y) ∧ w'.cell? ⟨b1, 3, none⟩ = some (.int .i64 s.pw) ∧ w'.cell? ⟨b1, 4, none⟩ = some (.int .i64 s.h) ∧ w'.cell? ⟨b1, 5, none⟩ = some (.slice A s.pat.length c) ∧ w'.cell? ⟨b1, 6, none⟩ = some (.int .i64 s.band) ∧ w'.cell? ⟨b1, 7, none⟩ = some (.int .i64 s.ch) ∧ w'.cell? ⟨b2, 0, none⟩ = some (.int .i64 t.id) ∧ w'.cell? ⟨b2, 1, none⟩ = some (.int .i64 t.x) ∧ w'.cell? ⟨b2, 2, none⟩ = some (.int .i64 t.y) ∧ w'.cell? ⟨b2, 3, none⟩ = some (.int .i64 t.pw) ∧ w'.cell? ⟨b2, 4, none⟩ = some (.int .i64 t.h) ∧ w'.cell? ⟨b2, 5, none⟩ = some (.slice B t.pat.length d) ∧ w'.cell? ⟨b2, 6, none⟩ = some (.int .i64 t.band) ∧ w'.cell? ⟨b2, 7, none⟩ = some (.int .i64 t.ch) := by
  obtain ⟨c0, c1, c2, c3⟩ := h0.c4
  obtain ⟨e0, e1, e2, e3, e4, e5, e6, e7⟩ := h1.c8
  obtain ⟨f0, f1, f2, f3, f4, f5, f6, f7⟩ := h2.c8
  exact ⟨c0, c1, c2, c3, e0, e1, e2, e3, e4, e5, e6, e7, f0, f1, f2, f3, f4, f5, f6, f7⟩

theorem caps2 {w : World} {W H : Int} {GA PA : Option Addr} {gc pc : Nat} {G P : List Int} {e f : CE} (h1 : Capt w e.bt e.bs W H GA PA gc pc G P e.s e.A e.c) (h2 : Capt w f.bt f.bs W H GA PA gc pc G P f.s f.A f.c) : Capts w W H GA PA gc pc G P [e, f] := fun x hx => by
  rcases List.mem_cons.1 hx with rfl | hx
  · exact h1
  · obtain rfl := List.mem_singleton.1 hx
    exact h2
theorem oks2 {W H : Int} {G P : List Int} {e f : CE} (h1 : M.okS W H G P e.s = true) (h2 : M.okS W H G P f.s = true) : ∀ x ∈ [e, f], M.okS W H G P x.s = true := fun x hx => by
  rcases List.mem_cons.1 hx with rfl | hx
  · exact h1
  · obtain rfl := List.mem_singleton.1 hx
    exact h2
/-- The cells of both areas. -/
def M.over (W H : Int) (G : List Int) (s t : St) : List Int := ((List.range (W * H).toNat).filter fun (i : Nat) => M.cov W G s (M.cx W i) (M.cy W i) && M.cov W G t (M.cx W i) (M.cy W i)).map fun (i : Nat) => (i : Int)
theorem M.over_cells (W H : Int) (G : List Int) (s t : St) (e f : CE) (he : e.s = s) (hf : f.s = t) : M.cellsTo W G [e, f] (W * H).toNat = M.over W H G s t := by
  subst he hf
  unfold M.cellsTo M.over M.allC
  simp

set_option maxHeartbeats 16000000 in
theorem overlap_ok (W H : Int) (GA PA : Option Addr) (gc pc : Nat) (G P : List Int) (s : St) (A : Option Addr) (c : Nat) (t : St) (B : Option Addr) (d : Nat) (w : World) (ht : Tab w) (hg : Sl 1 icell w w.heap.size GA G) (hp : Sl 1 icell w w.heap.size PA P) (hS : Sl 1 icell w w.heap.size A s.pat) (hT : Sl 1 icell w w.heap.size B t.pat) (hok : M.okS W H G P s = true) (hok2 : M.okS W H G P t = true) :
    Calls Tryz.prog 21 #[tv W H GA PA G.length gc P.length pc, stv s A c, stv t B d] w (RetL 1 icell w (M.over W H G s t) 0) := by
  obtain ⟨V, HW, x0, x1, x2, hB, -⟩ := boxes3 w #[.int .i64 W, .int .i64 H, .slice GA G.length gc, .slice PA P.length pc] 30 (stc s A c) 34 (stc t B d) 34
  obtain ⟨U, HU, u0, hBU, -⟩ := boxes1 V #[.int .i64 s.id, .int .i64 s.x, .int .i64 s.y, .int .i64 s.pw, .int .i64 s.h, .slice A s.pat.length c, .int .i64 s.band, .int .i64 s.ch, .int .i64 t.id, .int .i64 t.x, .int .i64 t.y, .int .i64 t.pw, .int .i64 t.h, .slice B t.pat.length d, .int .i64 t.band, .int .i64 t.ch] 34
  have BU := after_ hB hBU
  have hL : Sl 8 secell U U.heap.size (some ⟨V.heap.size, 0, none⟩) [⟨s, A, c⟩, ⟨t, B, d⟩] := Sl.of_box u0 rfl
  have hPs : Pats U [⟨s, A, c⟩, ⟨t, B, d⟩] := fun e he => by
    rcases List.mem_cons.1 he with rfl | he
    · exact (hS.below BU).more BU.size
    · obtain rfl := List.mem_singleton.1 he
      exact (hT.below BU).more BU.size
  obtain ⟨hsv, htv, -, -⟩ := M.okS_iff.1 hok
  obtain ⟨hsv2, -, -, -⟩ := M.okS_iff.1 hok2
  obtain ⟨r1, r2, r3, r4, -, -⟩ := M.tvalid_iff.1 htv
  obtain ⟨wh1, wh2⟩ := M.wh_le r1 r2
  have hp16 := (M.avalid_iff.1 (M.svalid_iff.1 hsv).2.2.2.2.2.2).2.1
  have hp17 := (M.avalid_iff.1 (M.svalid_iff.1 hsv2).2.2.2.2.2.2).2.1
  have HC : Hid (M.chk W H G P (([⟨s, A, c⟩, ⟨t, B, d⟩] : List SE).map (·.s)) = 0) := Lib.hid (by unfold M.chk; rw [if_pos (by simp [hok, hok2, htv])])
  have hpl : ∀ e ∈ ([⟨s, A, c⟩, ⟨t, B, d⟩] : List SE), e.s.pat.length ≤ 1000 := fun e he => by
    rcases List.mem_cons.1 he with rfl | he
    · show s.pat.length ≤ 1000; omega
    · obtain rfl := List.mem_singleton.1 he
      show t.pat.length ≤ 1000; omega
  have hgl : G.length ≤ 5000 := by omega
  have hpl' : P.length ≤ 5000 := by omega
  have HPL := Lib.hid hpl
  have HOK := Lib.hid hok
  have HOK2 := Lib.hid hok2
  have HTV := Lib.hid htv
  clear hok hok2 hsv hsv2 htv r1 r2 r3 r4 wh1 wh2 hp16 hp17 hpl
  obtain ⟨c0, c1, c2, c3⟩ := x0.c4
  obtain ⟨b0, b1, b2, b3, b4, b5, b6, b7⟩ := x1.c8
  obtain ⟨d0, d1, d2, d3, d4, d5, d6, d7⟩ := x2.c8
  have hV := HW.out
  have hU := HU.out
  go_enter Tryz.func21, Tryz.ntmps21
  go_wp2_with fail
  clear hV hU c0 c1 c2 c3 b0 b1 b2 b3 b4 b5 b6 b7 d0 d1 d2 d3 d4 d5 d6 d7
  refine (check_any W H GA PA gc pc G P (some ⟨V.heap.size, 0, none⟩) 2 [⟨s, A, c⟩, ⟨t, B, d⟩] U ((hg.below BU).more BU.size) ((hp.below BU).more BU.size) hL hPs (by omega) (by omega) (by simp) HPL.out).mono ?_
  rintro e w1 ⟨rfl, hb1⟩
  rw [HC.out]
  have B1 := after_ BU hb1
  have y0 : Box w1.drew w.heap.size #[.int .i64 W, .int .i64 H, .slice GA G.length gc, .slice PA P.length pc] 30 := (x0.below hBU).below hb1.drew
  have y1 : Box w1.drew (w.heap.size + 1) (stc s A c) 34 := (x1.below hBU).below hb1.drew
  have y2 : Box w1.drew (w.heap.size + 1 + 1) (stc t B d) 34 := (x2.below hBU).below hb1.drew
  have K0 := held123 y0 y1 y2
  have Bd : Below w.heap.size w w1.drew := B1.drew
  have Bs : Below w1.drew.heap.size w1.drew w1.drew := Below.refl _ _
  have kA : ∀ wa, Below w1.drew.heap.size w1.drew wa → _ := fun wa hba => held123 (y0.below hba) (y1.below hba) (y2.below hba)
  have kB : ∀ wa o, Below w1.drew.heap.size w1.drew wa → _ := fun wa o hba => held123 ((y0.below hba).below ((Below.refl wa.heap.size wa).alloc (Nat.le_refl _) o)) ((y1.below hba).below ((Below.refl wa.heap.size wa).alloc (Nat.le_refl _) o)) ((y2.below hba).below ((Below.refl wa.heap.size wa).alloc (Nat.le_refl _) o))
  have kS : ∀ w2, Below w1.drew.heap.size w1.drew w2 → Calls Tryz.prog 40 #[tv W H GA PA G.length gc P.length pc, stv s A c] w2 fun e w' => ∃ bt bs, e = .returned (fv bt bs) ∧ Below w2.heap.size w2 w' ∧ Capt w' bt bs W H GA PA gc pc G P s A c := fun w2 h => coveredBy_ex W H GA PA gc pc G P s A c w w2 (after_ Bd h) ht hg hp hS
  have kT : ∀ w2, Below w1.drew.heap.size w1.drew w2 → Calls Tryz.prog 40 #[tv W H GA PA G.length gc P.length pc, stv t B d] w2 fun e w' => ∃ bt bs, e = .returned (fv bt bs) ∧ Below w2.heap.size w2 w' ∧ Capt w' bt bs W H GA PA gc pc G P t B d := fun w2 h => coveredBy_ex W H GA PA gc pc G P t B d w w2 (after_ Bd h) ht hg hp hT
  have kC : ∀ (wa : World) (o : Obj) (w' : World), Below w1.drew.heap.size w1.drew wa → Below (wa.alloc o).heap.size (wa.alloc o) w' → Below w1.drew.heap.size w1.drew w' := fun wa o w' h1 h2 => after_ (h1.alloc h1.size o) h2
  have HkS := Lib.hid kS
  have HkT := Lib.hid kT
  clear kS kT
  go_wp2_with fail
  go_region_held3 (fun w' => w'.cell? ⟨w.heap.size, 0, none⟩ = some (.int .i64 W) ∧ w'.cell? ⟨w.heap.size, 1, none⟩ = some (.int .i64 H) ∧ w'.cell? ⟨w.heap.size, 2, none⟩ = some (.slice GA G.length gc) ∧ w'.cell? ⟨w.heap.size, 3, none⟩ = some (.slice PA P.length pc) ∧ w'.cell? ⟨w.heap.size + 1, 0, none⟩ = some (.int .i64 s.id) ∧ w'.cell? ⟨w.heap.size + 1, 1, none⟩ = some (.int .i64 s.x) ∧ w'.cell? ⟨w.heap.size + 1, 2, none⟩ = some (.int .i64 s.y) ∧ w'.cell? ⟨w.heap.size + 1, 3, none⟩ = some (.int .i64 s.pw) ∧ w'.cell? ⟨w.heap.size + 1, 4, none⟩ = some (.int .i64 s.h) ∧ w'.cell? ⟨w.heap.size + 1, 5, none⟩ = some (.slice A s.pat.length c) ∧ w'.cell? ⟨w.heap.size + 1, 6, none⟩ = some (.int .i64 s.band) ∧ w'.cell? ⟨w.heap.size + 1, 7, none⟩ = some (.int .i64 s.ch) ∧ w'.cell? ⟨w.heap.size + 1 + 1, 0, none⟩ = some (.int .i64 t.id) ∧ w'.cell? ⟨w.heap.size + 1 + 1, 1, none⟩ = some (.int .i64 t.x) ∧ w'.cell? ⟨w.heap.size + 1 + 1, 2, none⟩ = some (.int .i64 t.y) ∧ w'.cell? ⟨w.heap.size + 1 + 1, 3, none⟩ = some (.int .i64 t.pw) ∧ w'.cell? ⟨w.heap.size + 1 + 1, 4, none⟩ = some (.int .i64 t.h) ∧ w'.cell? ⟨w.heap.size + 1 + 1, 5, none⟩ = some (.slice B t.pat.length d) ∧ w'.cell? ⟨w.heap.size + 1 + 1, 6, none⟩ = some (.int .i64 t.band) ∧ w'.cell? ⟨w.heap.size + 1 + 1, 7, none⟩ = some (.int .i64 t.ch)) (first | exact K0 | exact kA _ (by assumption) | exact kB _ _ (by assumption))
    (first
      | (go_at_call 40; ((with_reducible refine (HkS.out _ (by assumption)).mono ?_); rintro e wa ⟨bt1, bs1, rfl, hba1, cap1⟩; have hbA := after_ (by assumption) hba1; dsimp only [fv]))
      | (go_at_call 40; ((with_reducible refine (HkT.out _ (by assumption)).mono ?_); rintro e wb ⟨bt2, bs2, rfl, hba2, cap2⟩; have hbB := after_ (by assumption) hba2; dsimp only [fv]))
      | (go_at_call 39; ((with_reducible refine (cells_ex W H GA PA gc pc G.length P.length _ 2 2 _).mono ?_); rintro e wc ⟨b1, b2, rfl, hbc, zc, zd⟩; have hbC := kC _ _ _ (by assumption) hbc; have capS : Capt wc bt1 bs1 W H GA PA gc pc G P s A c := (by first | exact ((cap1.below hba2).below ((Below.refl _ _).alloc (Nat.le_refl _) _)).below hbc | exact (cap1.below ((Below.refl _ _).alloc (Nat.le_refl _) _)).below hbc); have capT : Capt wc bt2 bs2 W H GA PA gc pc G P t B d := (by first | exact ((cap2.below hba1).below ((Below.refl _ _).alloc (Nat.le_refl _) _)).below hbc | exact (cap2.below ((Below.refl _ _).alloc (Nat.le_refl _) _)).below hbc); have zcl : ∃ q, Box wc q #[fv bt1 bs1, fv bt2 bs2] 79 ∧ Box wc b2 #[.slice (some ⟨q, 0, none⟩) 2 2] 95 := (by first | exact ⟨_, (Box.new wb #[fv bt1 bs1, fv bt2 bs2] 79).below hbc, zd⟩ | exact ⟨_, (Box.new wa #[fv bt1 bs1, fv bt2 bs2] 79).below hbc, zd⟩)))
      | (go_at_call 38; (obtain ⟨q, zq, zd2⟩ := zcl; have hKK : CellsK W H GA PA gc pc G P [⟨bt1, bs1, s, A, c⟩, ⟨bt2, bs2, t, B, d⟩] b1 b2 (some ⟨q, 0, none⟩) 2 wc := ⟨caps2 capS capT, zc, zd2, Sl.of_box zq rfl⟩; have kk := collectL_ok _ b1 b2 _ 2 wc hKK (by simp) HTV.out (oks2 HOK.out HOK2.out); ((with_reducible refine kk.mono ?_); rintro e wd ⟨A9, c9, rfl, hS9, hbd⟩; have hbD := after_ hbC hbd))))
  all_goals
    rw [M.over_cells W H G s t _ _ rfl rfl] at hS9
    rw [M.over_cells W H G s t _ _ rfl rfl]
    go_wp2_with fail
    go_ret2
    exact ⟨A9, c9, rfl, hS9, after_ Bd hbD⟩

set_option maxHeartbeats 8000000 in
theorem overlap_no (W H : Int) (GA PA : Option Addr) (gc pc : Nat) (G P : List Int) (s : St) (A : Option Addr) (c : Nat) (t : St) (B : Option Addr) (d : Nat) (w : World) (hg : Sl 1 icell w w.heap.size GA G) (hp : Sl 1 icell w w.heap.size PA P) (hS : Sl 1 icell w w.heap.size A s.pat) (hT : Sl 1 icell w w.heap.size B t.pat) (hgl : G.length ≤ 9223372036854775806) (hpl' : P.length ≤ 9223372036854775806) (hl1 : s.pat.length ≤ 1000) (hl2 : t.pat.length ≤ 1000) (hno : M.chk W H G P [s, t] = 2) :
    Calls Tryz.prog 21 #[tv W H GA PA G.length gc P.length pc, stv s A c, stv t B d] w (RetL 1 icell w [] 2) := by
  obtain ⟨V, HW, x0, x1, x2, hB, -⟩ := boxes3 w #[.int .i64 W, .int .i64 H, .slice GA G.length gc, .slice PA P.length pc] 30 (stc s A c) 34 (stc t B d) 34
  obtain ⟨U, HU, u0, hBU, -⟩ := boxes1 V #[.int .i64 s.id, .int .i64 s.x, .int .i64 s.y, .int .i64 s.pw, .int .i64 s.h, .slice A s.pat.length c, .int .i64 s.band, .int .i64 s.ch, .int .i64 t.id, .int .i64 t.x, .int .i64 t.y, .int .i64 t.pw, .int .i64 t.h, .slice B t.pat.length d, .int .i64 t.band, .int .i64 t.ch] 34
  have BU := after_ hB hBU
  have hL : Sl 8 secell U U.heap.size (some ⟨V.heap.size, 0, none⟩) [⟨s, A, c⟩, ⟨t, B, d⟩] := Sl.of_box u0 rfl
  have hPs : Pats U [⟨s, A, c⟩, ⟨t, B, d⟩] := fun e he => by
    rcases List.mem_cons.1 he with rfl | he
    · exact (hS.below BU).more BU.size
    · obtain rfl := List.mem_singleton.1 he
      exact (hT.below BU).more BU.size
  have hpl : ∀ e ∈ ([⟨s, A, c⟩, ⟨t, B, d⟩] : List SE), e.s.pat.length ≤ 1000 := fun e he => by
    rcases List.mem_cons.1 he with rfl | he
    · exact hl1
    · obtain rfl := List.mem_singleton.1 he
      exact hl2
  have k := check_any W H GA PA gc pc G P (some ⟨V.heap.size, 0, none⟩) 2 [⟨s, A, c⟩, ⟨t, B, d⟩] U ((hg.below BU).more BU.size) ((hp.below BU).more BU.size) hL hPs hgl hpl' (by simp) hpl
  rw [show ([⟨s, A, c⟩, ⟨t, B, d⟩] : List SE).map (·.s) = [s, t] from rfl, hno] at k
  clear hno hpl
  obtain ⟨c0, c1, c2, c3⟩ := x0.c4
  obtain ⟨b0, b1, b2, b3, b4, b5, b6, b7⟩ := x1.c8
  obtain ⟨d0, d1, d2, d3, d4, d5, d6, d7⟩ := x2.c8
  have hV := HW.out
  have hU := HU.out
  go_enter Tryz.func21, Tryz.ntmps21
  go_wp2_with fail
  clear hV hU
  refine k.mono ?_
  rintro e w1 ⟨rfl, hb1⟩
  go_wp2_with fail
  go_ret2
  exact RetL.none (after_ BU hb1)
end Go.Proofs.YtihepapjopcagaaGreatDoor
end

/- Sets of small numbers as the bits of one number; its words of 64 bits. Plain mathematics. -/
section
namespace Go.Proofs.YtihepapjopcagaaGreatDoor.Bs

/-- The k-th word. -/
def wd (n k : Nat) : Nat := n / 2 ^ (64 * k) % 18446744073709551616
theorem p64 : (18446744073709551616 : Nat) = 2 ^ 64 := by decide
theorem wd_lt (n k : Nat) : wd n k < 18446744073709551616 := Nat.mod_lt _ (by decide)
theorem wd_bit (n k j : Nat) : (wd n k).testBit j = (decide (j < 64) && n.testBit (64 * k + j)) := by
  unfold wd
  rw [p64, Nat.testBit_mod_two_pow, Nat.testBit_div_two_pow, Nat.add_comm]
theorem wd_of {n k x : Nat} (hx : x < 18446744073709551616) (h : ∀ j, j < 64 → x.testBit j = n.testBit (64 * k + j)) : x = wd n k := by
  apply Nat.eq_of_testBit_eq
  intro j
  rw [wd_bit]
  by_cases hj : j < 64
  · rw [h j hj]; simp [hj]
  · have : x.testBit j = false := Nat.testBit_lt_two_pow (Nat.lt_of_lt_of_le hx (by rw [p64]; exact Nat.pow_le_pow_right (by decide) (by omega)))
    simp [hj, this]
/-- All members are below 512. -/
def Fit (n : Nat) : Prop := ∀ i, 512 ≤ i → n.testBit i = false
theorem Fit.zero : Fit 0 := fun i _ => Nat.zero_testBit i
theorem ext8 {n m : Nat} (hn : Fit n) (hm : Fit m) (h : ∀ k, k < 8 → wd n k = wd m k) : n = m := by
  apply Nat.eq_of_testBit_eq
  intro i
  by_cases hi : i < 512
  · have e := congrArg (fun x => x.testBit (i % 64)) (h (i / 64) (by omega))
    simp only [wd_bit] at e
    have hl : i % 64 < 64 := by omega
    have hs : 64 * (i / 64) + i % 64 = i := by omega
    simpa [hl, hs] using e
  · rw [hn i (by omega), hm i (by omega)]
theorem fit_or {n m : Nat} (hn : Fit n) (hm : Fit m) : Fit (n ||| m) := fun i hi => by rw [Nat.testBit_or, hn i hi, hm i hi]; rfl
theorem fit_and {n : Nat} (m : Nat) (hn : Fit n) : Fit (n &&& m) := fun i hi => by rw [Nat.testBit_and, hn i hi]; rfl
/-- The members of the one that the other does not have. -/
def dif (n m : Nat) : Nat := n ^^^ (n &&& m)
theorem dif_bit (n m i : Nat) : (dif n m).testBit i = (n.testBit i && !m.testBit i) := by
  unfold dif
  rw [Nat.testBit_xor, Nat.testBit_and]
  cases n.testBit i <;> cases m.testBit i <;> rfl
theorem fit_dif {n : Nat} (m : Nat) (hn : Fit n) : Fit (dif n m) := fun i hi => by rw [dif_bit, hn i hi]; rfl
theorem fit_one {i : Nat} (hi : i < 512) : Fit (2 ^ i) := fun j hj => by rw [Nat.testBit_two_pow]; simp; omega
theorem dif_lt {n m : Nat} (h : n < 18446744073709551616) : dif n m < 18446744073709551616 := by
  unfold dif
  rw [p64] at *
  exact Nat.xor_lt_two_pow h (Nat.lt_of_le_of_lt Nat.and_le_left h)
theorem or_lt {n m : Nat} (h : n < 18446744073709551616) (h2 : m < 18446744073709551616) : n ||| m < 18446744073709551616 := by
  rw [p64] at *
  exact Nat.or_lt_two_pow h h2
theorem and_lt {n : Nat} (m : Nat) (h : n < 18446744073709551616) : n &&& m < 18446744073709551616 := Nat.lt_of_le_of_lt Nat.and_le_left h
theorem wd_zero (k : Nat) : wd 0 k = 0 := by simp [wd]
theorem wd_or (n m k : Nat) : wd (n ||| m) k = wd n k ||| wd m k :=
  (wd_of (or_lt (wd_lt _ _) (wd_lt _ _)) (fun j hj => by rw [Nat.testBit_or, wd_bit, wd_bit, Nat.testBit_or]; simp [hj])).symm
theorem wd_and (n m k : Nat) : wd (n &&& m) k = wd n k &&& wd m k :=
  (wd_of (and_lt _ (wd_lt _ _)) (fun j hj => by rw [Nat.testBit_and, wd_bit, wd_bit, Nat.testBit_and]; simp [hj])).symm
theorem wd_dif (n m k : Nat) : wd (dif n m) k = dif (wd n k) (wd m k) :=
  (wd_of (dif_lt (wd_lt _ _)) (fun j hj => by rw [dif_bit, wd_bit, wd_bit, dif_bit]; simp [hj])).symm
theorem pow_lt {s : Nat} (h : s < 64) : 2 ^ s < 18446744073709551616 := by
  rw [p64]; exact Nat.pow_lt_pow_right (by decide) h
theorem wd_one (i k : Nat) : wd (2 ^ i) k = if k = i / 64 then 2 ^ (i % 64) else 0 := by
  symm
  refine wd_of (by split; exact pow_lt (by omega); decide) (fun j hj => ?_)
  rw [Nat.testBit_two_pow]
  split
  · rename_i h
    subst h
    rw [Nat.testBit_two_pow]
    congr 1
    apply propext
    omega
  · rw [Nat.zero_testBit]
    simp
    omega
theorem wd_add_same {n i : Nat} : wd (n ||| 2 ^ i) (i / 64) = wd n (i / 64) ||| 2 ^ (i % 64) := by rw [wd_or, wd_one, if_pos rfl]
theorem wd_add_other {n i k : Nat} (h : k ≠ i / 64) : wd (n ||| 2 ^ i) k = wd n k := by rw [wd_or, wd_one, if_neg h]; simp
theorem dif_zero (n : Nat) : dif n 0 = n := by simp [dif]
theorem wd_rem_same {n i : Nat} : wd (dif n (2 ^ i)) (i / 64) = dif (wd n (i / 64)) (2 ^ (i % 64)) := by rw [wd_dif, wd_one, if_pos rfl]
theorem wd_rem_other {n i k : Nat} (h : k ≠ i / 64) : wd (dif n (2 ^ i)) k = wd n k := by rw [wd_dif, wd_one, if_neg h, dif_zero]
theorem has_bit (n i : Nat) : (wd n (i / 64) / 2 ^ (i % 64)) &&& 1 = if n.testBit i then 1 else 0 := by
  rw [Nat.and_one_is_mod]
  have h : (wd n (i / 64)).testBit (i % 64) = n.testBit i := by
    rw [wd_bit]
    have : 64 * (i / 64) + i % 64 = i := by omega
    simp [this]; omega
  rw [Nat.testBit_eq_decide_div_mod_eq] at h
  rw [← h]
  by_cases hh : wd n (i / 64) / 2 ^ (i % 64) % 2 = 1
  · simp [hh]
  · simp [hh]; omega
theorem zero_iff {n : Nat} (hn : Fit n) : n = 0 ↔ ∀ k, k < 8 → wd n k = 0 :=
  ⟨fun h k _ => by rw [h, wd_zero], fun h => ext8 hn Fit.zero (fun k hk => by rw [h k hk, wd_zero])⟩

/-- The smallest member from i on, or -1. -/
def nxtF : Nat → Nat → Nat → Int
  | 0, _, _ => -1
  | f + 1, n, i => if n.testBit i then (i : Int) else nxtF f n (i + 1)
def nxt (n i : Nat) : Int := nxtF (512 - i) n i
theorem nxtF_some {n j : Nat} (hj : n.testBit j = true) : ∀ {f i : Nat}, i ≤ j → j < i + f → (∀ m, i ≤ m → m < j → n.testBit m = false) → nxtF f n i = j
  | 0, i, h1, h2, _ => by omega
  | f + 1, i, h1, h2, h3 => by
    unfold nxtF
    by_cases e : i = j
    · subst e; rw [if_pos hj]
    · rw [if_neg (by rw [h3 i (Nat.le_refl _) (by omega)]; decide)]
      exact nxtF_some hj (by omega) (by omega) (fun m h4 h5 => h3 m (by omega) h5)
theorem nxtF_none {n : Nat} : ∀ {f i : Nat}, (∀ m, i ≤ m → m < i + f → n.testBit m = false) → nxtF f n i = -1
  | 0, _, _ => rfl
  | f + 1, i, h => by
    unfold nxtF
    rw [if_neg (by rw [h i (Nat.le_refl _) (by omega)]; decide)]
    exact nxtF_none (fun m h4 h5 => h m (by omega) (by omega))
theorem nxt_some {n i j : Nat} (hj : n.testBit j = true) (h1 : i ≤ j) (h2 : j < 512) (h3 : ∀ m, i ≤ m → m < j → n.testBit m = false) : nxt n i = j := nxtF_some hj h1 (by omega) h3
theorem nxt_none {n i : Nat} (h : ∀ m, i ≤ m → m < 512 → n.testBit m = false) : nxt n i = -1 := nxtF_none (fun m h1 h2 => h m h1 (by omega))
theorem nxt_big {n i : Nat} (h : 512 ≤ i) : nxt n i = -1 := by unfold nxt; rw [show 512 - i = 0 by omega]; rfl
theorem nxtF_lt {n : Nat} : ∀ {f i : Nat}, -1 ≤ nxtF f n i ∧ nxtF f n i < i + f
  | 0, i => by simp only [nxtF]; omega
  | f + 1, i => by
    unfold nxtF
    split
    · omega
    · have := nxtF_lt (n := n) (f := f) (i := i + 1); omega
/-- The members from i on. -/
def elsF : Nat → Nat → Nat → List Nat
  | 0, _, _ => []
  | f + 1, n, i => if n.testBit i then i :: elsF f n (i + 1) else elsF f n (i + 1)
def els (n i : Nat) : List Nat := elsF (512 - i) n i
theorem elsF_nxt {n : Nat} : ∀ {f i : Nat}, (nxtF f n i = -1 ∧ elsF f n i = []) ∨ ∃ j, i ≤ j ∧ j < i + f ∧ nxtF f n i = (j : Int) ∧ n.testBit j = true ∧ elsF f n i = j :: elsF (i + f - (j + 1)) n (j + 1)
  | 0, _ => .inl ⟨rfl, rfl⟩
  | f + 1, i => by
    by_cases h : n.testBit i = true
    · right
      refine ⟨i, Nat.le_refl _, by omega, by unfold nxtF; rw [if_pos h], h, ?_⟩
      conv => lhs; unfold elsF
      rw [if_pos h, show i + (f + 1) - (i + 1) = f by omega]
    · have e1 : nxtF (f + 1) n i = nxtF f n (i + 1) := by conv => lhs; unfold nxtF
                                                          rw [if_neg h]
      have e2 : elsF (f + 1) n i = elsF f n (i + 1) := by conv => lhs; unfold elsF
                                                          rw [if_neg h]
      rcases elsF_nxt (n := n) (f := f) (i := i + 1) with ⟨h1, h2⟩ | ⟨j, h1, h2, h3, h4, h5⟩
      · exact .inl ⟨by rw [e1, h1], by rw [e2, h2]⟩
      · exact .inr ⟨j, by omega, by omega, by rw [e1, h3], h4, by rw [e2, h5, show i + 1 + f - (j + 1) = i + (f + 1) - (j + 1) by omega]⟩
theorem els_nxt {n i : Nat} (hi : i ≤ 512) : (nxt n i = -1 ∧ els n i = []) ∨ ∃ j, i ≤ j ∧ j < 512 ∧ nxt n i = (j : Int) ∧ n.testBit j = true ∧ els n i = j :: els n (j + 1) := by
  rcases elsF_nxt (n := n) (f := 512 - i) (i := i) with h | ⟨j, h1, h2, h3, h4, h5⟩
  · exact .inl h
  · exact .inr ⟨j, h1, by omega, h3, h4, by show elsF (512 - i) n i = j :: elsF (512 - (j + 1)) n (j + 1); rw [h5, show i + (512 - i) - (j + 1) = 512 - (j + 1) by omega]⟩
theorem elsF_mem {n x : Nat} : ∀ {f i : Nat}, x ∈ elsF f n i ↔ i ≤ x ∧ x < i + f ∧ n.testBit x = true
  | 0, i => by simp [elsF]; omega
  | f + 1, i => by
    unfold elsF
    by_cases h : n.testBit i = true
    · rw [if_pos h, List.mem_cons, elsF_mem]
      constructor
      · rintro (rfl | ⟨a, b, c⟩)
        · exact ⟨Nat.le_refl _, by omega, h⟩
        · exact ⟨by omega, by omega, c⟩
      · rintro ⟨a, b, c⟩
        by_cases e : x = i
        · exact .inl e
        · exact .inr ⟨by omega, by omega, c⟩
    · rw [if_neg h, elsF_mem]
      constructor
      · rintro ⟨a, b, c⟩; exact ⟨by omega, by omega, c⟩
      · rintro ⟨a, b, c⟩
        by_cases e : x = i
        · subst e; exact absurd c h
        · exact ⟨by omega, by omega, c⟩
theorem els_mem {n i x : Nat} (hi : i ≤ 512) : x ∈ els n i ↔ i ≤ x ∧ x < 512 ∧ n.testBit x = true := by
  unfold els
  rw [elsF_mem]
  constructor <;> rintro ⟨a, b, c⟩ <;> exact ⟨a, by omega, c⟩
theorem elsF_filter (n : Nat) : ∀ (f i : Nat), elsF f n i = (List.range' i f).filter (fun j => n.testBit j)
  | 0, _ => rfl
  | f + 1, i => by
    unfold elsF
    rw [List.range'_succ, List.filter_cons, ← elsF_filter n f (i + 1)]
theorem els_filter (n : Nat) : els n 0 = (List.range 512).filter (fun j => n.testBit j) := by
  unfold els
  rw [elsF_filter, List.range_eq_range']
theorem els_len (n i : Nat) : (els n i).length ≤ 512 := by
  unfold els
  rw [elsF_filter]
  have := List.length_filter_le (fun j => n.testBit j) (List.range' i (512 - i))
  rw [List.length_range'] at this
  omega
/-- The number of trailing zeros of a word. -/
theorem ctz_bit {x : Nat} (h0 : x ≠ 0) (hx : x < 18446744073709551616) : Lib.ctz 64 x < 64 ∧ x.testBit (Lib.ctz 64 x) = true ∧ ∀ j, j < Lib.ctz 64 x → x.testBit j = false := by
  unfold Lib.ctz
  rw [if_neg h0]
  obtain ⟨m, e, hlt⟩ := Lib.ctzFrom_spec 64 x (by omega) (by rw [← p64]; exact hx)
  generalize Lib.ctzFrom 64 x = c at *
  refine ⟨hlt, ?_, fun j hj => ?_⟩
  · rw [e, Nat.testBit_two_pow_mul]; simp
  · rw [e, Nat.testBit_two_pow_mul]; simp; omega
theorem cut_bit (x s j : Nat) : (x / 2 ^ s * 2 ^ s).testBit j = (decide (s ≤ j) && x.testBit j) := by
  rw [Nat.mul_comm, Nat.testBit_two_pow_mul, Nat.testBit_div_two_pow]
  by_cases h : s ≤ j
  · simp [h]
  · simp [h]
theorem cut_le (x s : Nat) : x / 2 ^ s * 2 ^ s ≤ x := Nat.div_mul_le_self x _
end Go.Proofs.YtihepapjopcagaaGreatDoor.Bs
end

/- Layer 7: sets of small numbers (package bitset). -/
section
namespace Go.Proofs.YtihepapjopcagaaGreatDoor
open Go Go.RowKit
set_option maxRecDepth 100000

/-- A set in memory. -/
abbrev bsc (n : Nat) : Array Value := #[.int .u64 (Bs.wd n 0 : Nat), .int .u64 (Bs.wd n 1 : Nat), .int .u64 (Bs.wd n 2 : Nat), .int .u64 (Bs.wd n 3 : Nat), .int .u64 (Bs.wd n 4 : Nat), .int .u64 (Bs.wd n 5 : Nat), .int .u64 (Bs.wd n 6 : Nat), .int .u64 (Bs.wd n 7 : Nat)]
abbrev bsv (n : Nat) : Value := .agg (bsc n)
theorem bsc_at {n k : Nat} (hk : k < 8) : (bsc n)[k]? = some (.int .u64 (Bs.wd n k : Nat)) := by
  match k, hk with
  | 0, _ | 1, _ | 2, _ | 3, _ | 4, _ | 5, _ | 6, _ | 7, _ => rfl
theorem Box.w8 {w : World} {b n k : Nat} {t : TypeId} (h : Box w b (bsc n) t) (hk : k < 8) : w.cell? ⟨b, k, none⟩ = some (.int .u64 (Bs.wd n k : Nat)) := h.cell k (bsc_at hk)
theorem bsc_set {n m k : Nat} (hk : k < 8) (h : ∀ j, j < 8 → j ≠ k → Bs.wd m j = Bs.wd n j) {x : Nat} (hx : Bs.wd m k = x) : (bsc n).setIfInBounds k (.int .u64 (x : Nat)) = bsc m := by
  subst hx
  match k, hk with
  | 0, _ | 1, _ | 2, _ | 3, _ | 4, _ | 5, _ | 6, _ | 7, _ =>
    simp only [bsc, List.setIfInBounds_toArray, List.set_cons_succ, List.set_cons_zero]
    simp (disch := decide) only [h]

set_option maxHeartbeats 1000000 in
theorem inRange_yes (i : Nat) (w : World) (hi : i < 512) : Calls Tryz.prog 72 #[.int .i64 i] w fun e w' => e = .returned (.bool true) ∧ w = w' := by
  have h1 : (0 : Int) ≤ i := by omega
  have h2 : (i : Int) < 512 := by omega
  go_enter Tryz.func72, Tryz.ntmps72
  go_wp2_with fail
  go_ret
  exact ⟨rfl, rfl⟩

theorem wrap_pow {s : Nat} (h : s < 64) : IntKind.u64.wrap ((2 : Int) ^ s) = ((2 ^ s : Nat) : Int) := by
  have h1 := Bs.pow_lt h
  rw [show ((2 : Int) ^ s) = ((2 ^ s : Nat) : Int) by rw [Int.natCast_pow]; rfl, IntKind.wrap_u64]
  generalize 2 ^ s = x at h1
  omega
theorem or_val {n k s : Nat} (hs : s < 64) : bits BinOp.or IntKind.u64 ((Bs.wd n k : Nat) : Int) (IntKind.u64.wrap ((2 : Int) ^ s)) = ((Bs.wd n k ||| 2 ^ s : Nat) : Int) := by
  rw [wrap_pow hs, bits_or_u64_nat _ _ (Bs.wd_lt _ _) (Bs.pow_lt hs)]
theorem set8v (cs : Array Value) (hs : cs.size = 8) (v0 v1 v2 v3 v4 v5 v6 v7 : Value) : ((((((((cs.setIfInBounds 0 v0).setIfInBounds 1 v1).setIfInBounds 2 v2).setIfInBounds 3 v3).setIfInBounds 4 v4).setIfInBounds 5 v5).setIfInBounds 6 v6).setIfInBounds 7 v7) = #[v0, v1, v2, v3, v4, v5, v6, v7] := by
  obtain ⟨l⟩ := cs
  match l, hs with
  | [_, _, _, _, _, _, _, _], _ => simp only [List.setIfInBounds_toArray, List.set_cons_zero, List.set_cons_succ]
/-- A set is stored into a block of eight cells. -/
theorem store8 (w : World) (b n : Nat) (cs : Array Value) (t : TypeId) (hb : Box w b cs t) (hs : cs.size = 8) :
    ∃ Y, Hid ((((((((w.setCell ⟨b, 0, none⟩ (.int .u64 (Bs.wd n 0 : Nat))).setCell ⟨b, 1, none⟩ (.int .u64 (Bs.wd n 1 : Nat))).setCell ⟨b, 2, none⟩ (.int .u64 (Bs.wd n 2 : Nat))).setCell ⟨b, 3, none⟩ (.int .u64 (Bs.wd n 3 : Nat))).setCell ⟨b, 4, none⟩ (.int .u64 (Bs.wd n 4 : Nat))).setCell ⟨b, 5, none⟩ (.int .u64 (Bs.wd n 5 : Nat))).setCell ⟨b, 6, none⟩ (.int .u64 (Bs.wd n 6 : Nat))).setCell ⟨b, 7, none⟩ (.int .u64 (Bs.wd n 7 : Nat)) = Y) ∧
      Box Y b (bsc n) t ∧ (∀ B u, B ≤ b → Below B u w → Below B u Y) ∧ Y.heap.size = w.heap.size ∧ (∀ b' cs' t', b' ≠ b → Box w b' cs' t' → Box Y b' cs' t') := by
  refine ⟨_, Lib.hid rfl, ?_, ?_, by simp, ?_⟩
  · have h := (((((((hb.set 0 (.int .u64 (Bs.wd n 0 : Nat))).set 1 (.int .u64 (Bs.wd n 1 : Nat))).set 2 (.int .u64 (Bs.wd n 2 : Nat))).set 3 (.int .u64 (Bs.wd n 3 : Nat))).set 4 (.int .u64 (Bs.wd n 4 : Nat))).set 5 (.int .u64 (Bs.wd n 5 : Nat))).set 6 (.int .u64 (Bs.wd n 6 : Nat))).set 7 (.int .u64 (Bs.wd n 7 : Nat))
    rw [set8v cs hs] at h
    exact h
  · intro B u hB hu
    exact (((((((hu.setCell (p := ⟨b, 0, none⟩) hB _).setCell (p := ⟨b, 1, none⟩) hB _).setCell (p := ⟨b, 2, none⟩) hB _).setCell (p := ⟨b, 3, none⟩) hB _).setCell (p := ⟨b, 4, none⟩) hB _).setCell (p := ⟨b, 5, none⟩) hB _).setCell (p := ⟨b, 6, none⟩) hB _).setCell (p := ⟨b, 7, none⟩) hB _
  · intro b' cs' t' hne h
    exact (((((((h.set_other (p := ⟨b, 0, none⟩) hne _).set_other (p := ⟨b, 1, none⟩) hne _).set_other (p := ⟨b, 2, none⟩) hne _).set_other (p := ⟨b, 3, none⟩) hne _).set_other (p := ⟨b, 4, none⟩) hne _).set_other (p := ⟨b, 5, none⟩) hne _).set_other (p := ⟨b, 6, none⟩) hne _).set_other (p := ⟨b, 7, none⟩) hne _
theorem Box.w {w : World} {b n : Nat} {t : TypeId} (h : Box w b (bsc n) t) : w.cell? ⟨b, 0, none⟩ = some (.int .u64 (Bs.wd n 0 : Nat)) ∧ w.cell? ⟨b, 1, none⟩ = some (.int .u64 (Bs.wd n 1 : Nat)) ∧ w.cell? ⟨b, 2, none⟩ = some (.int .u64 (Bs.wd n 2 : Nat)) ∧ w.cell? ⟨b, 3, none⟩ = some (.int .u64 (Bs.wd n 3 : Nat)) ∧ w.cell? ⟨b, 4, none⟩ = some (.int .u64 (Bs.wd n 4 : Nat)) ∧ w.cell? ⟨b, 5, none⟩ = some (.int .u64 (Bs.wd n 5 : Nat)) ∧ w.cell? ⟨b, 6, none⟩ = some (.int .u64 (Bs.wd n 6 : Nat)) ∧ w.cell? ⟨b, 7, none⟩ = some (.int .u64 (Bs.wd n 7 : Nat)) := h.c8

set_option maxHeartbeats 4000000 in
theorem bsAdd_ok (n i : Nat) (w : World) (hi : i < 512) : Calls Tryz.prog 50 #[bsv n, .int .i64 i] w fun e w' => e = .returned (.tuple #[bsv (n ||| 2 ^ i), .int .i64 0]) ∧ Below w.heap.size w w' := by
  obtain ⟨V, HW, x0, x1, hB, hs⟩ := boxes2 w (bsc n) 60 #[.int .u64 0, .int .u64 0, .int .u64 0, .int .u64 0, .int .u64 0, .int .u64 0, .int .u64 0, .int .u64 0] 60
  obtain ⟨k, hk⟩ : ∃ k : Nat, (i : Int) / 64 = (k : Int) := ⟨i / 64, by omega⟩
  obtain ⟨s, hs'⟩ : ∃ s : Nat, (i : Int) % 64 = (s : Int) := ⟨i % 64, by omega⟩
  have hk8 : k < 8 := by omega
  have hs8 : s < 64 := by omega
  have a0 := x0.w8 hk8
  have f0 := x0.frozen k
  have hV := HW.out
  obtain ⟨m, HM⟩ : ∃ m, Hid (n ||| 2 ^ i = m) := ⟨_, Lib.hid rfl⟩
  rw [HM.out]
  go_enter Tryz.func50, Tryz.ntmps50
  go_wp2_with fail
  clear hV
  refine (inRange_yes i V hi).mono ?_
  rintro e w1 ⟨rfl, rfl⟩
  go_wp2_with fail
  go_region
  have hm : (bsc n).setIfInBounds k (.int .u64 ((Bs.wd n k ||| 2 ^ s : Nat) : Int)) = bsc m := by
    rw [← HM.out]
    obtain rfl : k = i / 64 := by omega
    obtain rfl : s = i % 64 := by omega
    exact bsc_set hk8 (fun j _ hj => Bs.wd_add_other hj) Bs.wd_add_same
  rw [or_val hs8]
  obtain ⟨U, HU⟩ : ∃ U, Hid ((V.setCell ⟨w.heap.size, k, none⟩ (.int .u64 ((Bs.wd n k ||| 2 ^ s : Nat) : Int))).drew = U) := ⟨_, Lib.hid rfl⟩
  have y0 : Box U w.heap.size (bsc m) 60 := by
    rw [← HU.out, ← hm]; exact x0.set k _
  have y1 : Box U (w.heap.size + 1) #[.int .u64 0, .int .u64 0, .int .u64 0, .int .u64 0, .int .u64 0, .int .u64 0, .int .u64 0, .int .u64 0] 60 := by
    rw [← HU.out]; exact x1.set_other (p := ⟨w.heap.size, k, none⟩) (by simp) _
  have hBU : Below w.heap.size w U := by
    rw [← HU.out]; exact (hB.setCell (p := ⟨w.heap.size, k, none⟩) (Nat.le_refl _) _).drew
  rw [HU.out]
  clear hm a0 f0 x0 x1
  obtain ⟨Y, HY, z, hBY, -, -⟩ := store8 U (w.heap.size + 1) m _ _ y1 rfl
  have hY := HY.out
  obtain ⟨c0, c1, c2, c3, c4, c5, c6, c7⟩ := y0.w
  have g0 := y1.frozen 0
  have g1 := y1.frozen 1
  have g2 := y1.frozen 2
  have g3 := y1.frozen 3
  have g4 := y1.frozen 4
  have g5 := y1.frozen 5
  have g6 := y1.frozen 6
  have g7 := y1.frozen 7
  obtain ⟨d0, d1, d2, d3, d4, d5, d6, d7⟩ := y1.c8
  obtain ⟨z0, z1, z2, z3, z4, z5, z6, z7⟩ := z.w
  go_wp2_with fail
  refine bodyPost_ret (v := .tuple #[bsv m, .int .i64 0]) ?_ rfl ⟨rfl, hBY _ _ (by omega) hBU⟩
  simp [results, Tryz.results50, go_sem, z0, z1, z2, z3, z4, z5, z6, z7]

set_option maxHeartbeats 1000000 in
theorem eqWords (d : Nat) (a0 a1 a2 a3 a4 a5 a6 a7 b0 b1 b2 b3 b4 b5 b6 b7 : Int) (w : World) : (Op.equalIn (d + 2) 58 (.agg #[.int .u64 a0, .int .u64 a1, .int .u64 a2, .int .u64 a3, .int .u64 a4, .int .u64 a5, .int .u64 a6, .int .u64 a7]) (.agg #[.int .u64 b0, .int .u64 b1, .int .u64 b2, .int .u64 b3, .int .u64 b4, .int .u64 b5, .int .u64 b6, .int .u64 b7])).run Tryz.prog w = .ok (a0 == b0 && a1 == b1 && a2 == b2 && a3 == b3 && a4 == b4 && a5 == b5 && a6 == b6 && a7 == b7) w := by
  have u3 := Tryz.underlying57
  have u4 := Tryz.underlying58
  have z3 := Tryz.sizeOf57
  have ag := Tryz.isAgg57
  unfold Op.equalIn
  go_simp
  rw [show List.range' 0 8 = [0, 1, 2, 3, 4, 5, 6, 7] from rfl]
  by_cases h0 : a0 = b0
  · by_cases h1 : a1 = b1
    · by_cases h2 : a2 = b2
      · by_cases h3 : a3 = b3
        · by_cases h4 : a4 = b4
          · by_cases h5 : a5 = b5
            · by_cases h6 : a6 = b6
              · by_cases h7 : a7 = b7 <;> go_simp
              · go_simp
            · go_simp
          · go_simp
        · go_simp
      · go_simp
    · go_simp
  · go_simp
set_option maxHeartbeats 1000000 in
theorem eqSetW (a0 a1 a2 a3 a4 a5 a6 a7 b0 b1 b2 b3 b4 b5 b6 b7 : Int) (w : World) : (Op.equalIn 10000 60 (.agg #[.int .u64 a0, .int .u64 a1, .int .u64 a2, .int .u64 a3, .int .u64 a4, .int .u64 a5, .int .u64 a6, .int .u64 a7]) (.agg #[.int .u64 b0, .int .u64 b1, .int .u64 b2, .int .u64 b3, .int .u64 b4, .int .u64 b5, .int .u64 b6, .int .u64 b7])).run Tryz.prog w = .ok (a0 == b0 && a1 == b1 && a2 == b2 && a3 == b3 && a4 == b4 && a5 == b5 && a6 == b6 && a7 == b7) w := by
  have hS : Tryz.prog.underlying 60 = some (.struct (Tryz.prog.fieldsOf 60)) := by kernel_rfl
  have hp : Tryz.prog.stoodInHeld 60 = false := by kernel_rfl
  have hw := fun w => eqWords 9997 a0 a1 a2 a3 a4 a5 a6 a7 b0 b1 b2 b3 b4 b5 b6 b7 w
  rw [show (10000 : Nat) = 9999 + 1 from rfl, run_equalIn_agg w 9999 60 _ _ hS hp]
  simp only [Program.fieldsOf, Tryz.underlying60]
  have z8 := Tryz.sizeOf58
  have g8 := Tryz.isAgg58
  go_simp
  generalize (a0 == b0 && a1 == b1 && a2 == b2 && a3 == b3 && a4 == b4 && a5 == b5 && a6 == b6 && a7 == b7) = r at *
  cases r <;> simp
theorem eqSet0 {n : Nat} (hn : Bs.Fit n) (w : World) : (Op.equalIn 10000 60 (bsv n) (.agg #[.int .u64 0, .int .u64 0, .int .u64 0, .int .u64 0, .int .u64 0, .int .u64 0, .int .u64 0, .int .u64 0])).run Tryz.prog w = .ok (decide (n = 0)) w := by
  rw [eqSetW]
  congr 1
  rw [Bool.eq_iff_iff]
  simp only [Bool.and_eq_true, beq_iff_eq, decide_eq_true_eq, Bs.zero_iff hn]
  constructor
  · rintro ⟨⟨⟨⟨⟨⟨⟨h0, h1⟩, h2⟩, h3⟩, h4⟩, h5⟩, h6⟩, h7⟩ k hk
    match k, hk with
    | 0, _ | 1, _ | 2, _ | 3, _ | 4, _ | 5, _ | 6, _ | 7, _ => omega
  · intro h
    have := h 0 (by decide); have := h 1 (by decide); have := h 2 (by decide); have := h 3 (by decide); have := h 4 (by decide); have := h 5 (by decide); have := h 6 (by decide); have := h 7 (by decide)
    omega
@[go_sem] theorem guardSet : Tryz.prog.eqGuardType Tryz.prog.depth 60 = false := by kernel_rfl

set_option maxHeartbeats 4000000 in
theorem bsEmpty_ok (n : Nat) (hn : Bs.Fit n) (w : World) : Calls Tryz.prog 31 #[bsv n] w fun e w' => e = .returned (.bool (decide (n = 0))) ∧ Below w.heap.size w w' := by
  obtain ⟨V, HW, x0, hB, -⟩ := boxes1 w (bsc n) 60
  have hq := eqSet0 hn
  obtain ⟨r, HR⟩ : ∃ r, Hid (decide (n = 0) = r) := ⟨_, Lib.hid rfl⟩
  rw [HR.out]
  simp only [HR.out] at hq
  obtain ⟨c0, c1, c2, c3, c4, c5, c6, c7⟩ := x0.w
  have hV := HW.out
  go_enter Tryz.func31, Tryz.ntmps31
  go_wp2_with fail
  go_ret
  exact ⟨rfl, hB⟩

theorem and127 (x : Int) : ∃ r : Nat, r ≤ 127 ∧ bits BinOp.and IntKind.i64 x 127 = (r : Int) := by
  refine ⟨((BitVec.ofInt 64 x).toNat &&& 127), Nat.and_le_right, ?_⟩
  show IntKind.i64.wrap ((BitVec.ofInt 64 x &&& BitVec.ofInt 64 127).toNat : Int) = _
  rw [BitVec.toNat_and, show (BitVec.ofInt 64 127).toNat = 127 from rfl]
  have h : (BitVec.ofInt 64 x).toNat &&& 127 ≤ 127 := Nat.and_le_right
  generalize (BitVec.ofInt 64 x).toNat &&& 127 = r at *
  unfold IntKind.wrap
  simp [IntKind.bits, IntKind.signed]
  omega
/-- A call that returns some number up to a bound. -/
def RetUpTo (m : Nat) (w : World) (e : Ending) (w' : World) : Prop := ∃ r : Nat, r ≤ m ∧ e = .returned (.int .i64 r) ∧ w = w'
set_option maxHeartbeats 4000000 in
theorem onesCount_some (x : Nat) (w : World) : Calls Tryz.prog 73 #[.int .u64 x] w (RetUpTo 127 w) := by
  go_enter Tryz.func73, Tryz.ntmps73
  go_wp2_with fail
  go_ret
  exact (and127 _).imp fun r h => ⟨h.1, ret_int h.2, rfl⟩
end Go.Proofs.YtihepapjopcagaaGreatDoor
end
