/- Layer 13: Sort. -/
import Derived.Test.YtfcaikahdcpglaaDoorStS
import Derived.Test.YtfcaikahdcpglaaDoorSortMath
namespace Go.Proofs.YtfcaikahdcpglaaDoor
open Go Go.RowKit
set_option maxRecDepth 100000

def OwnP (w : World) (base : Nat) (e : SE) : Prop := w.ownsRow base 3 1 (.slice e.A e.s.pat.length e.c) e.s.pat.length (flat 1 icell e.s.pat)
def SE.blk (e : SE) : Option Nat := (Value.slice e.A e.s.pat.length e.c).ownBlock
/-- A list of stations of the call's own, whose patterns are its own, too, each in a block of its own. -/
structure Outs (w : World) (base : Nat) (v : Value) (os : List SE) : Prop where
  own : w.ownsRow base 28 8 v os.length (flat 8 secell os)
  pat : ∀ e ∈ os, OwnP w base e
  apart : os.Pairwise fun a b => a.blk = none ∨ a.blk ≠ b.blk
  far : ∀ e ∈ os, e.blk = none ∨ e.blk ≠ v.ownBlock
theorem OwnP.lt {w : World} {base : Nat} {e : SE} (h : OwnP w base e) : e.blk = none ∨ ∃ g, e.blk = some g ∧ base ≤ g ∧ g < w.heap.size := by
  cases hb : e.blk with
  | none => exact .inl rfl
  | some g => exact .inr ⟨g, rfl, World.ownsRow.lt h g hb⟩
theorem Outs.nil_ (w : World) (base : Nat) (v : Value) (h : w.ownsRow base 28 8 v 0 []) : Outs w base v [] :=
  ⟨h, fun _ h => absurd h (by simp), List.Pairwise.nil, fun _ h => absurd h (by simp)⟩
theorem Outs.below {w w' : World} {base : Nat} {v : Value} {os : List SE} (h : Outs w base v os) (hb : Below w.heap.size w w') : Outs w' base v os :=
  ⟨own_below h.own hb, fun e he => own_below (h.pat e he) hb, h.apart, h.far⟩
theorem Outs.push {w w1 w' : World} {base : Nat} {v v' : Value} {os : List SE} {y : SE} (h : Outs w base v os) (hbase : base ≤ w.heap.size) (hb : Below w.heap.size w w1) (hy : OwnP w1 w.heap.size y)
    (hown' : w'.ownsRow base 28 8 v' (os.length + 1) (flat 8 secell (os ++ [y]))) (hg : w1.grownBy w' v.ownBlock) (hat : ∀ b, v'.ownBlock = some b → v.ownBlock = some b ∨ w1.heap.size ≤ b) : Outs w' base v' (os ++ [y]) := by
  have h1 := h.below hb
  have vlt : ∀ g, v.ownBlock = some g → g < w.heap.size := fun g hg => (h.own.lt g hg).2
  have ylt := hy.lt
  have yfar : y.blk = none ∨ y.blk ≠ v.ownBlock := by
    rcases ylt with h0 | ⟨g, h0, h2, h3⟩
    · exact .inl h0
    · right; intro e; rw [h0] at e; have := vlt g e.symm; omega
  have far' : ∀ e : SE, OwnP w1 base e → (e.blk = none ∨ e.blk ≠ v.ownBlock) → e.blk = none ∨ e.blk ≠ v'.ownBlock := by
    intro e he hf
    rcases hf with hf | hf
    · exact .inl hf
    · rcases he.lt with h0 | ⟨g, h0, h2, h3⟩
      · exact .inl h0
      · right; intro e2
        rw [h0] at e2
        rcases hat g e2.symm with h4 | h4
        · exact hf (by rw [h0, h4])
        · omega
  refine ⟨by rw [List.length_append]; exact hown', ?_, ?_, ?_⟩
  · intro e he
    rcases List.mem_append.1 he with he | he
    · exact (h1.pat e he).kept hg (h.far e he)
    · obtain rfl : e = y := by simpa using he
      exact own_base (World.ownsRow.kept hy hg yfar) hbase
  · refine List.pairwise_append.2 ⟨h.apart, List.pairwise_singleton _ _, fun a ha b hb' => ?_⟩
    obtain rfl : b = y := by simpa using hb'
    rcases (h.pat a ha).lt with h0 | ⟨g, h0, h2, h3⟩
    · exact .inl h0
    · right; intro e
      rcases ylt with h5 | ⟨g', h5, h6, h7⟩
      · rw [h0, h5] at e; cases e
      · rw [h0, h5] at e
        have := Option.some.inj e
        omega
  · intro e he
    rcases List.mem_append.1 he with he | he
    · exact far' e (h1.pat e he) (h.far e he)
    · obtain rfl : e = y := by simpa using he
      exact far' e (own_base hy hbase) yfar
theorem Outs.base {w : World} {base base' : Nat} {v : Value} {os : List SE} (h : Outs w base v os) (hb : base' ≤ base) : Outs w base' v os :=
  ⟨own_base h.own hb, fun e he => own_base (h.pat e he) hb, h.apart, h.far⟩
/-- A call that returns a sorted list of stations and an error number. -/
def RetSorted (w : World) (l : List St) (er : Int) (e : Ending) (w' : World) : Prop :=
  ∃ A c os, e = .returned (.tuple #[.slice A os.length c, .int .i64 er]) ∧ os.map (·.s) = l ∧ Outs w' w.heap.size (.slice A os.length c) os ∧ Below w.heap.size w w'
theorem RetSorted.none {w w' : World} {er : Int} (hB : Below w.heap.size w w') : RetSorted w [] er (.returned (.tuple #[.slice none 0 0, .int .i64 er])) w' :=
  ⟨Option.none, 0, [], rfl, rfl, Outs.nil_ _ _ _ (own_nil _ _ _ (α := SE) 8 secell), hB⟩
theorem RetSorted.eq {w w' : World} {l l' : List St} {er er' : Int} {e : Ending} (h : RetSorted w l er e w') (he : (l', er') = (l, er)) : RetSorted w l' er' e w' := by
  obtain ⟨rfl, rfl⟩ := Prod.mk.inj he; exact h

set_option maxHeartbeats 16000000 in
theorem sort_any (LA : Option Addr) (lc : Nat) (es : List SE) (w : World) (hL : Sl 8 secell w w.heap.size LA es) (hP : Pats w es) (hl : es.length ≤ 1000) (hpl : ∀ e ∈ es, e.s.pat.length ≤ 1000) :
    Calls Tryd.prog 20 #[.slice LA es.length lc] w (RetSorted w (M.sortR (es.map (·.s))).1 (M.sortR (es.map (·.s))).2) := by
  have HNK : Hid (∀ k (hk : k < es.length), M.svalid es[k].s = false → M.sortR (es.map (·.s)) = ([], 2)) := Lib.hid (fun k hk h => by
    have h2 : ((es.map (·.s)).all M.svalid) = false := by
      rw [List.all_eq_false]
      exact ⟨es[k].s, List.mem_map.2 ⟨_, List.getElem_mem hk, rfl⟩, by rw [h]; decide⟩
    unfold M.sortR; rw [h2]; rfl)
  have HYES : Hid ((∀ k (hk : k < es.length), M.svalid es[k].s = true) → M.ids (es.map (·.s)) ∧ (M.twice (es.map (·.s)) = true → M.sortR (es.map (·.s)) = ([], 11)) ∧ (M.twice (es.map (·.s)) = false → M.sortR (es.map (·.s)) = (M.sortS (es.map (·.s)), 0))) := Lib.hid (fun hk => by
    have h1 : ∀ s ∈ es.map (·.s), M.svalid s = true := by
      intro s hs
      obtain ⟨e, he, rfl⟩ := List.mem_map.1 hs
      obtain ⟨j, hj, rfl⟩ := List.getElem_of_mem he
      exact hk j hj
    have h2 : ((es.map (·.s)).all M.svalid) = true := List.all_eq_true.2 h1
    refine ⟨fun s hs => (M.svalid_iff.1 (h1 s hs)).1, fun ht => ?_, fun ht => ?_⟩ <;> (unfold M.sortR; rw [h2, ht]; rfl))
  obtain ⟨i0, hi, hz0, hz1, hz2⟩ := info_parts intInfo
  have Hi := Lib.hid hi; have Hz0 := Lib.hid hz0; have Hz1 := Lib.hid hz1; have Hz2 := Lib.hid hz2
  obtain ⟨i8, hi8, hz08, hz18, hz28⟩ := info_parts seInfo
  have Hi8 := Lib.hid hi8; have Hz08 := Lib.hid hz08; have Hz18 := Lib.hid hz18; have Hz28 := Lib.hid hz28
  clear hi hz0 hz1 hz2 hi8 hz08 hz18 hz28
  go_enter Tryd.func20, Tryd.ntmps20
  go_wp2_with fail
  go_loopw [5, 14] (fun _ i wr => ∃ k : Nat, k ≤ es.length ∧ i = .int .i64 k ∧ Below w.heap.size w wr ∧ Hid (∀ j (hj : j < es.length), j < k → M.svalid es[j].s = true)) (fun _ i _ => es.length - (intOf i).toNat)
  case atStart => exact ⟨0, Nat.zero_le _, rfl, Below.refl _ _, Lib.hid (fun j _ h => absurd h (by omega))⟩
  case round =>
    obtain ⟨k, hk, rfl, hBw, HN⟩ := hrel
    by_cases hlt : k < es.length
    · obtain ⟨la, rfl, hlb, a0, a1, a2, a3, a4, a5, a6, a7⟩ := (hL.below hBw).st8 hlt
      have hS := (hP.below hBw).at_ hlt
      have hpk := hpl _ (List.getElem_mem hlt)
      have HK1 := Lib.hid (HNK.out k hlt)
      have HN2 : Hid (M.svalid es[k].s = true → ∀ j (hj : j < es.length), j < k + 1 → M.svalid es[j].s = true) := Lib.hid (fun h j h1 h3 => by
        by_cases e : j = k
        · subst e; exact h
        · exact HN.out j h1 (by omega))
      generalize es[k] = ek at *
      obtain ⟨s, A, c⟩ := ek
      simp only at a0 a1 a2 a3 a4 a5 a6 a7 hS hpk HK1 HN2
      obtain ⟨U, HU, u0, hBU, -⟩ := boxes1 wr (stc s A c) 28
      obtain ⟨b0, b1, b2, b3, b4, b5, b6, b7⟩ := u0.c8
      have hU := HU.out
      have BU := after_ hBw hBU
      go_wp2_with fail
      clear hU
      refine (sValid_any s A c U ((hS.below hBU).more hBU.size) (by omega)).mono ?_
      rintro e w2 ⟨rfl, hb2⟩
      have B2 := after_ BU hb2
      cases hv : M.svalid s with
      | false =>
        have HF := Lib.hid (HK1.out hv)
        go_wp2_with fail
        go_ret2
        exact (RetSorted.none B2).eq HF.out
      | true =>
        have HN3 := Lib.hid (HN2.out hv)
        go_wp2_with fail
        go_roundw
        case rel => exact ⟨k + 1, hlt, by go_num, B2, HN3⟩
        case measure => simp [intOf]; omega
    · have HALL := Lib.hid (HYES.out (fun j hj => HN.out j hj (by omega)))
      have HPW : Hid (∀ k (hk : k < es.length), ((es.map (·.s))[k]'(by simpa using hk)) = es[k].s) := Lib.hid (fun k hk => by simp)
      have HLEN : Hid ((es.map (·.s)).length = es.length) := Lib.hid (by simp)
      obtain ⟨l, hl'⟩ : ∃ l, es.map (·.s) = l := ⟨_, rfl⟩
      clear HN HYES HNK
      go_wp2_with (at_make; refine wpList_make_full _ rfl _ _ 22 rfl wr.heap.size 3 i0 _ 1 Tryd.underlying22 Hi.out Hz0.out Hz1.out .i64 .i64 _ _ 512 rfl rfl rfl rfl (by rw [Hz2.out]; omega) (by unfold maxLen; omega) (Nat.le_refl _) ?_; intro w2 hown hg2)
      have em := made_flat (cell := icell) (size := 1) (x0 := (0 : Int)) (by decide) (Value.int .i64 0).cells rfl 512
      rw [em] at hown
      clear em
      have hown0 : w2.ownsRow wr.heap.size 3 1 (.slice (some ⟨wr.heap.size, 0, none⟩) 512 512) 512 (flat 1 icell (M.plTo l 0)) := hown
      have hB2 : Below wr.heap.size wr w2 := (Below.refl _ _).grown hg2 (Nat.le_refl _) (by simp)
      have hB2w := after_ hBw hB2
      have hgw : w.heap.size ≤ wr.heap.size := hBw.size
      clear hown hg2 hB2
      rw [hl'] at HALL HLEN
      have HPW2 : Hid (∀ k (hk : k < es.length), ∃ h : k < l.length, l[k] = es[k].s) := Lib.hid (fun k hk => by subst hl'; exact ⟨by simpa using hk, by simp⟩)
      obtain ⟨HIDS, HTW, HSO⟩ := HALL.out
      have HIDS := Lib.hid HIDS
      have HTW := Lib.hid HTW
      have HSO := Lib.hid HSO
      have HL' := Lib.hid hl'
      clear HALL HPW hl' hBw
      generalize wr.heap.size = g at *
      go_loopw [7, 8, 25] (fun _ _ i wq => ∃ k : Nat, k ≤ es.length ∧ i = .int .i64 k ∧ Below w.heap.size w wq ∧ wq.ownsRow g 3 1 (.slice (some ⟨g, 0, none⟩) 512 512) 512 (flat 1 icell (M.plTo l k)) ∧ Hid (M.nodupTo l k)) (fun _ _ i _ => es.length - (intOf i).toNat)
      case atStart => exact ⟨0, Nat.zero_le _, rfl, hB2w, hown0, Lib.hid (fun i j _ _ _ h => absurd h (by omega))⟩
      case round =>
        clear hown0 hB2w hlt hk
        obtain ⟨k, hk, rfl, hBw, hown, HND⟩ := hrel
        by_cases hlt : k < es.length
        · obtain ⟨la, rfl, hlb, a0, a1, a2, a3, a4, a5, a6, a7⟩ := (hL.below hBw).st8 hlt
          obtain ⟨hkl, hlk⟩ := HPW2.out k hlt
          have hidb := HIDS.out l[k] (List.getElem_mem hkl)
          obtain ⟨n, hn⟩ := Int.eq_ofNat_of_zero_le hidb.1
          have hn512 : n < (M.plTo l k).length := by rw [M.plTo_len]; omega
          have hn5 : n < 512 := by omega
          have HPA := Lib.hid (M.plTo_at HIDS.out k (by omega) n hn512)
          have HPS : Hid (M.plTo l (k + 1) = (M.plTo l k).set n ((k : Int) + 1)) := Lib.hid (by rw [M.plTo_succ hkl, hn, Int.toNat_natCast])
          have HLK := Lib.hid hlk
          have HID := Lib.hid hn
          rw [hlk] at hn
          clear hidb hlk
          generalize es[k] = ek at *
          obtain ⟨s, A, c⟩ := ek
          simp only at a0 a1 a2 a3 a4 a5 a6 a7 hn HLK
          rw [hn] at a0
          obtain ⟨U, HU, u0, hBU, -⟩ := boxes1 wr #[.int .i64 (n : Int), .int .i64 s.x, .int .i64 s.y, .int .i64 s.pw, .int .i64 s.h, .slice A s.pat.length c, .int .i64 s.band, .int .i64 s.ch] 28
          have BU := after_ hBw hBU
          have o1 := own_below hown hBU
          obtain ⟨p1, p2⟩ := own_at o1 hn512 (j := 0) (by decide)
          have hst := own_set o1 hn512 (j := 0) (y := (k : Int) + 1) (u := .int .i64 ((k : Int) + 1)) (by decide) rfl (fun j' h1 h2 => absurd h1 (by omega))
          rw [← HPS.out] at hst
          have HSET := Lib.hid hst
          clear hst hown
          simp only [Nat.mul_one, Nat.add_zero, icell] at p1 p2 HSET
          obtain ⟨b0, b1, b2, b3, b4, b5, b6, b7⟩ := u0.c8
          generalize hpv : (M.plTo l k)[n] = pv at *
          clear hpv
          have hU := HU.out
          have hgU := (own_lt o1).2
          have r1 : (0 : Int) ≤ (n : Int) := by omega
          have r2 : (n : Int) < 512 := by omega
          by_cases hpos : 0 < pv
          · have q1 : decide (0 < pv) = true := decide_eq_true hpos
            have HF := Lib.hid (HTW.out (by
              rcases HPA.out with ⟨h1, _⟩ | ⟨j, hj, h1, h2, _⟩
              · omega
              · exact M.twice_of hj hkl h1 (by rw [h2, HID.out])))
            clear hn
            go_wp2_with fail
            clear hU
            go_ret2
            exact (RetSorted.none BU).eq (by rw [HL'.out]; exact HF.out)
          · have q1 : decide (0 < pv) = false := decide_eq_false hpos
            have HND2 : Hid (M.nodupTo l (k + 1)) := Lib.hid (fun i j hi hj hij hjk => by
              by_cases e : j = k
              · subst e
                rcases HPA.out with ⟨_, h2⟩ | ⟨j', hj', h1, h2, h3⟩
                · rw [HID.out]; exact h2 i hi hij
                · omega
              · exact HND.out i j hi hj hij (by omega))
            clear hn
            go_wp2_with fail
            clear hU
            go_roundw
            case rel => exact ⟨k + 1, hlt, by go_num, BU.setCell (p := ⟨g, _, none⟩) hgw _, HSET.out, HND2⟩
            case measure => simp [intOf]; omega
        · have hkE : k = es.length := by omega
          subst hkE
          have HNDL : Hid (M.nodupTo l l.length) := Lib.hid (by rw [HLEN.out]; exact HND.out)
          have HF := Lib.hid (HSO.out (M.twice_not HNDL.out))
          have HPL : Hid (∀ n (hn : n < 512), ∃ h : n < (M.plTo l es.length).length, ((M.plTo l es.length)[n] = 0 ∧ M.sortTo l (n + 1) = M.sortTo l n) ∨ (∃ j, ∃ hj : j < l.length, ∃ hje : j < es.length, (M.plTo l es.length)[n] = (j : Int) + 1 ∧ l[j] = es[j].s ∧ M.sortTo l (n + 1) = M.sortTo l n ++ [l[j]])) := Lib.hid (fun n hn => by
            have h1 : n < (M.plTo l es.length).length := by rw [M.plTo_len]; exact hn
            refine ⟨h1, ?_⟩
            have hll := HLEN.out
            rcases M.plTo_at HIDS.out es.length (by omega) n h1 with ⟨h2, h3⟩ | ⟨j, hj, h2, h3, h4⟩
            · left
              refine ⟨h2, ?_⟩
              rw [M.sortTo_succ, M.find_none (fun j hj => h3 j hj (by omega))]; simp
            · right
              refine ⟨j, hj, by omega, h4, (HPW2.out j (by omega)).2, ?_⟩
              rw [M.sortTo_succ, M.find_some hj h3 HNDL.out]; rfl)
          have hgl := (own_lt hown).2
          have hszw := hBw.size
          clear HND HTW HSO hlt hk
          go_wp2_with (at_make; refine wpList_make_own _ rfl _ _ 38 rfl wr.heap.size 28 i8 _ 8 Tryd.underlying38 Hi8.out Hz08.out Hz18.out .i64 .i64 _ es.length rfl rfl rfl (by rw [Hz28.out]; omega) (by unfold maxLen; omega) (Nat.le_refl _) ?_; intro w5 hown5 hg5)
          have hB5 : Below wr.heap.size wr w5 := (Below.refl _ _).grown hg5 (Nat.le_refl _) (by simp)
          have hO5 := Outs.nil_ _ _ _ hown5
          clear hg5 hown5
          obtain ⟨wm, hwm⟩ : ∃ wm : World, wm = wr := ⟨_, rfl⟩
          rw [← hwm] at hB5 hO5 hown hgl hszw hBw ⊢
          clear hwm
          go_loopw [9, 11, 48] (fun v _ i wx => ∃ (k : Nat) (os : List SE), k ≤ 512 ∧ i = .int .i64 k ∧ Below wm.heap.size wm wx ∧ Outs wx wm.heap.size v os ∧ Hid (os.map (·.s) = M.sortTo l k)) (fun _ _ i _ => 512 - (intOf i).toNat)
          case atStart => exact ⟨0, [], Nat.zero_le _, rfl, hB5, hO5, Lib.hid rfl⟩
          case round =>
            clear hB5 hO5
            obtain ⟨k, os, hk, rfl, hBx, hO, HOS⟩ := hrel
            have hol : os.length ≤ k := by have := congrArg List.length HOS.out; rw [List.length_map] at this; have := M.sortTo_length_le l k; omega
            have hBw2 := hBw.trans (hBx.mono hBw.size)
            by_cases hlt : k < 512
            · obtain ⟨hkp, hcase⟩ := HPL.out k hlt
              obtain ⟨p1, p2⟩ := own_at (own_below hown hBx) hkp (j := 0) (by decide)
              simp only [Nat.mul_one, Nat.add_zero, icell] at p1
              clear p2
              have r1 : (0 : Int) ≤ (k : Int) := by omega
              have r2 : (k : Int) < 512 := by omega
              rcases hcase with ⟨h2, h3⟩ | ⟨j, hj, hje, h2, h3, h4⟩
              · rw [h2] at p1
                have HS3 := Lib.hid h3
                clear h2 h3
                go_wp2_with fail
                go_roundw
                case rel => exact ⟨k + 1, os, hlt, by go_num, hBx, hO, Lib.hid (by rw [HS3.out]; exact HOS.out)⟩
                case measure => simp [intOf]; omega
              · rw [h2] at p1
                rw [h3] at h4
                have HS3 := Lib.hid h4
                clear h2 h3 h4
                obtain ⟨la, rfl, hlb, a0, a1, a2, a3, a4, a5, a6, a7⟩ := (hL.below hBw2).st8 hje
                have hS := (hP.below hBw2).at_ hje
                have hpk := hpl _ (List.getElem_mem hje)
                generalize es[j] = ek at *
                obtain ⟨s, A, c⟩ := ek
                simp only at a0 a1 a2 a3 a4 a5 a6 a7 hS hpk HS3
                go_wp2_with fail
                refine (sCopy_ok s A c wr hS hpk).mono ?_
                rintro e w6 ⟨A1, c1, rfl, hown1, hb6⟩
                have hO6 := hO.below hb6
                have hB6 := after_ hBx hb6
                clear a0 a1 a2 a3 a4 a5 a6 a7 p1
                go_wp2_with (at_builtin; refine wpList_push2 (w0 := wm) (cell := secell) (y := ⟨s, A1, c1⟩) rfl _ _ _ rfl wm.heap.size wm.heap.size 28 i8 _ 80 Tryd.underlying38 Hi8.out Hz08.out Hz18.out Hz28.out rfl (by decide) _ _ _ rfl hO6.own _ _ rfl _ rfl (se_one _) (by unfold maxLen; omega) (by omega) hB6.size (Nat.le_refl _) hB6 ?_; intro v' w' hown' hb' hg' hat')
                have hO7 := hO.push hBx.size hb6 (y := ⟨s, A1, c1⟩) hown1 hown' hg' hat'
                go_roundw
                case rel => exact ⟨k + 1, os ++ [⟨s, A1, c1⟩], hlt, by go_num, hb', hO7, Lib.hid (by rw [HS3.out, List.map_append, HOS.out]; rfl)⟩
                case measure => simp [intOf]; omega
            · have hk5 : k = 512 := by omega
              subst hk5
              have HE : Hid (os.map (·.s) = M.sortS l) := Lib.hid HOS.out
              obtain ⟨A9, c9, rfl, -⟩ := own_slice (by decide) hO.own
              have HF2 : Hid (M.sortR (es.map (·.s)) = (os.map (·.s), 0)) := Lib.hid (by rw [HL'.out, HF.out, HE.out])
              go_wp2_with fail
              go_ret2
              exact RetSorted.eq ⟨A9, c9, os, rfl, rfl, hO.base hszw, hBw2⟩ HF2.out
end Go.Proofs.YtfcaikahdcpglaaDoor
