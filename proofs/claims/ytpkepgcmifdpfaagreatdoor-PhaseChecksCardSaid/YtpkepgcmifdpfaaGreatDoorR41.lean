/- A bundle of texts: RpA, RpD, RpE. -/
import Derived.Test.YtpkepgcmifdpfaaGreatDoorR40
import Derived.Test.YtpkepgcmifdpfaaGreatDoorR37
import Derived.Test.YtpkepgcmifdpfaaGreatDoorR33
import Derived.Test.YtpkepgcmifdpfaaGreatDoorR10
section
namespace Go.Proofs.YtpkepgcmifdpfaaGreatDoor
open Go Go.RowKit Go.Maps
set_option maxRecDepth 100000
theorem append_wp {α : Type} {P : Program} {size : Nat} {cell : α → Nat → Value} {w : World} {o : Oper} {a : Act} {K : Act → World → Prop} {Q : Exit → Act → World → Prop} (s x : Operand) (t : TypeId)
    (ho : o.op = .call { callee := .builtin .append, args := #[s, x], argTypes := #[t, t] })
    (base : Nat) (e : TypeId) (i : TypeInfo) (z : Value) (bytes : Nat) (ht : P.underlying t = some (.slice e)) (hi : P.info? e = some i) (hz : i.zero = some z)
    (hsize : i.size = size) (hby : i.bytes = bytes) (hzs : z.cells.size = size) (hsz : 0 < size)
    (v : Value) (n : Nat) (xs : List α) (hs : a.eval s = v) (hown : w.ownsRow base e size v n (flat size cell xs))
    (B : Nat) (A : Option Addr) (c : Nat) (ys : List α) (hx : a.eval x = .slice A ys.length c) (hr : Sl size cell w B A ys) (h1 : ∀ y j, (cell y j).oneCell' = true)
    (h63 : n + ys.length ≤ maxLen) (hbytes : (n + ys.length) * bytes ≤ 140737488355328) (hbase : base ≤ w.heap.size)
    (h : ∀ v' w', w'.ownsRow base e size v' (n + ys.length) (flat size cell (xs ++ ys)) → w.grownBy w' v.ownBlock → K (a.put o.dst v') w') :
    Oper.wp P o a w K Q := by
  obtain ⟨v', w', hrun, h2, h3⟩ := run_append_sl (P := P) w base t o.type e i z bytes ht hi hz hsize hby hzs hsz v n xs hown B A c ys hr h1 h63 hbytes hbase
  unfold Oper.wp execOp
  simp only [ho, resolve, invoke, builtin, Sem.run_bind, Sem.run_pure, Result.andThen_ok, List.map_toArray, List.map_cons, List.map_nil, hs, hx, hrun]
  exact h v' w' h2 h3
theorem Sl.drop1 {α : Type} {cell : α → Nat → Value} {w : World} {B : Nat} {A : Option Addr} {xs : List α} (h : Sl 1 cell w B A xs) {cap n : Nat} (hc : xs.length ≤ cap) : Sl 1 cell w B (if cap = n then A else A.map (·.add (n * 1))) (xs.drop n) := fun k hk => by
  rw [List.length_drop] at hk
  obtain ⟨ad, rfl, hb, hcell⟩ := h (n + k) (by omega)
  refine ⟨ad.add n, by rw [if_neg (by omega)]; simp, by rw [add_block]; exact hb, fun j hj => ?_⟩
  have := hcell j hj
  rw [Addr.add_add, List.getElem_drop]
  rw [show n + (k * 1 + j) = (n + k) * 1 + j by omega]
  exact this
theorem Sl.take1 {α : Type} {cell : α → Nat → Value} {w : World} {B : Nat} {A : Option Addr} {xs : List α} (h : Sl 1 cell w B A xs) {cap n : Nat} (hc : xs.length ≤ cap) : Sl 1 cell w B (if cap = 0 then A else A.map (·.add (0 * 1))) (xs.take n) := fun k hk => by
  rw [List.length_take] at hk
  have := (Sl.drop1 h (cap := cap) (n := 0) hc) k (by rw [List.length_drop]; omega)
  simpa using this
set_option maxHeartbeats 32000000 in
theorem sorted_reg8 {Q : Exit → Act → World → Prop} {cd : Code} {dl : List Deferred} {Z1 Z2 Z6 Z7 Z8 Z9 Za Zb Zc Zd Ze Zf Zg Zh Zi Zj Zk Zl Zm Zn Zo Zp Zq Zr Zs Zt Zu Zv Zw Zx Zy Zz Z10 Z11 Z12 Z13 Z14 Z15 Z16 Z17 : Value} {LA OA : Option Addr} {lc oc n m i k : Nat} {out : List Int} {x : Int} {X : World} (hO : Sl 1 icell X X.heap.size OA out) (hm : out.length = m) (hcap : m ≤ oc) (hx : ∃ la, LA = some la ∧ (la.add i).block < X.heap.size ∧ X.cell? (la.add i) = some (.int .i64 x)) (hin : i < n) (hk : k ≤ m) (hlen : m ≤ 1000000) (hcd : (Tryz.f22.body.bind (regionOf 8)) = some cd)
    (hQ : ∀ (y29 y30 y31 y32 y33 y34 y35 y36 y37 y38 y39 y40 y41 y42 : Value) (wo : World) (v : Value), wo.ownsRow X.heap.size 3 1 v (m + 1) (flat 1 icell (out.take k ++ [x] ++ out.drop k)) → Below X.heap.size X wo → Q .normal ⟨#[.slice LA n lc,Z1,Z2,v,.int .i64 (i : Nat),.int .i64 (k : Nat),Z6,Z7,Z8,Z9,Za,Zb,Zc,Zd,Ze,Zf,Zg,Zh,Zi,Zj,Zk,Zl,Zm,Zn,Zo,Zp,Zq,Zr,Zs,y29,y30,y31,y32,y33,y34,y35,y36,y37,y38,y39,y40,y41,y42,Z17], dl⟩ wo) :
    cd.wp Tryz.prog Q ⟨#[.slice LA n lc,Z1,Z2,.slice OA m oc,.int .i64 (i : Nat),.int .i64 (k : Nat),Z6,Z7,Z8,Z9,Za,Zb,Zc,Zd,Ze,Zf,Zg,Zh,Zi,Zj,Zk,Zl,Zm,Zn,Zo,Zp,Zq,Zr,Zs,Zt,Zu,Zv,Zw,Zx,Zy,Zz,Z10,Z11,Z12,Z13,Z14,Z15,Z16,Z17], dl⟩ X := by
  rw [show (Tryz.f22.body.bind (regionOf 8)) = some (Code.region 8 _ true) from rfl] at hcd
  obtain rfl := Option.some.inj hcd
  clear hcd
  dsimp only at hQ ⊢
  obtain ⟨ii, hii, hzi0, hzi1, hzi2⟩ := info_parts intInfoP
  have Hii := Lib.hid hii; have Hzi0 := Lib.hid hzi0; have Hzi1 := Lib.hid hzi1; have Hzi2 := Lib.hid hzi2
  clear hii hzi0 hzi1 hzi2
  obtain ⟨la, rfl, hlb, E00⟩ := hx
  have HQ := Lib.hid hQ
  clear hQ
  have y0 : (0 : Int) ≤ (i : Int) := by omega
  have y1 : (i : Int) < (n : Int) := by omega
  have y2 : (0 : Int) ≤ (k : Int) := by omega
  have y3 : (k : Int) ≤ (oc : Int) := by omega
  have y4 : (k : Int) ≤ (m : Int) := by omega
  have E0 : X.drew.cell? (la.add i) = some (.int .i64 x) := E00
  have hO1 : Sl 1 icell X.drew X.heap.size (if oc = 0 then OA else OA.map (·.add (0 * 1))) (out.take k) := Sl.take1 (hO : Sl 1 icell X.drew X.heap.size OA out) (by omega)
  have hO2 : Sl 1 icell X.drew X.heap.size (if oc = k then OA else OA.map (·.add (k * 1))) (out.drop k) := Sl.drop1 (hO : Sl 1 icell X.drew X.heap.size OA out) (by omega)
  obtain ⟨A1, hA1⟩ : ∃ A1, (if oc = 0 then OA else OA.map (·.add (0 * 1))) = A1 := ⟨_, rfl⟩
  obtain ⟨A2, hA2⟩ : ∃ A2, (if oc = k then OA else OA.map (·.add (k * 1))) = A2 := ⟨_, rfl⟩
  rw [hA1] at hO1
  rw [hA2] at hO2
  have hl1 : (out.take k).length = k := by rw [List.length_take]; omega
  have hl2 : (out.drop k).length = m - k := by rw [List.length_drop]; omega
  have hr1 : ∀ w, (Instr.slice 29 (.slice OA m oc) none (some (.int .i64 (k : Nat))) none).run Tryz.prog w = .ok (.slice A1 (out.take k).length oc) w := fun w => by
    rw [run_slice_h (ht := Tryz.underlying29) (h0 := y2) (h2 := y3), hl1, ← hA1]
    go_simp
  have hr2 : ∀ w, (Instr.slice 29 (.slice OA m oc) (some (.int .i64 (k : Nat))) none none).run Tryz.prog w = .ok (.slice A2 (out.drop k).length (oc - k)) w := fun w => by
    rw [run_slice_l (ht := Tryz.underlying29) (h0 := y2) (h1 := y4), hl2, ← hA2]
    go_simp
  have HL1 := Lib.hid hl1; have HL2 := Lib.hid hl2; have HM := Lib.hid hm
  have HO1 := Lib.hid hO1; have HO2 := Lib.hid hO2
  clear hO hO1 hO2 hl1 hl2 hm hA1 hA2 E00
  generalize (out.take k) = o1 at *
  generalize (out.drop k) = o2 at *
  refine wp_region_noPanic ?_
  refine wp_region_any (by kernel_rfl) ?_
  refine wpAny_of_L (S := (fun (_ : Array Bool) (w' : World) => w'.cell? (la.add i) = some (.int .i64 x))) _ _ _ _ ?_
  change wpAnyL Tryz.prog _ _ _ _ _ _ _ X.drew
  refine wpAnyL_take (i := 0) (q := 2) (v := .slice OA m oc) (fun w' => True) rfl (by kernel_rfl) (by kernel_rfl) (by kernel_rfl) (fun c a w h => h) rfl (by kernel_rfl) (by decide) (fun ls w => by simp) (fun ls w h1 h2 => trivial) rfl rfl (fun w h => by go_simp) E0 ?_
  try simp only [Act.put]
  refine wpAnyL_take (i := 1) (q := 2) (v := .int .i64 (k : Nat)) (fun w' => True) rfl (by kernel_rfl) (by kernel_rfl) (by kernel_rfl) (fun c a w h => h) rfl (by kernel_rfl) (by decide) (fun ls w => by simp) (fun ls w h1 h2 => trivial) rfl rfl (fun w h => by go_simp) E0 ?_
  try simp only [Act.put]
  refine wpAnyL_take (i := 2) (q := 3) (v := .slice A1 o1.length oc) (fun w' => True) rfl (by kernel_rfl) (by kernel_rfl) (by kernel_rfl) (fun c a w h => h) rfl (by kernel_rfl) (by decide) (fun ls w => by simp) (fun ls w h1 h2 => trivial) rfl rfl (fun w h => by go_simp) E0 ?_
  try simp only [Act.put]
  refine wpAnyL_take (i := 4) (q := 6) (v := .slice (some la) n lc) (fun w' => True) rfl (by kernel_rfl) (by kernel_rfl) (by kernel_rfl) (fun c a w h => h) rfl (by kernel_rfl) (by decide) (fun ls w => by simp) (fun ls w h1 h2 => trivial) rfl rfl (fun w h => by go_simp) E0 ?_
  try simp only [Act.put]
  refine wpAnyL_take (i := 5) (q := 6) (v := .int .i64 (i : Nat)) (fun w' => True) rfl (by kernel_rfl) (by kernel_rfl) (by kernel_rfl) (fun c a w h => h) rfl (by kernel_rfl) (by decide) (fun ls w => by simp) (fun ls w h1 h2 => trivial) rfl rfl (fun w h => by go_simp) E0 ?_
  try simp only [Act.put]
  refine wpAnyL_take (i := 6) (q := 7) (v := .pointer (some (la.add i))) (fun w' => True) rfl (by kernel_rfl) (by kernel_rfl) (by kernel_rfl) (fun c a w h => h) rfl (by kernel_rfl) (by decide) (fun ls w => by simp) (fun ls w h1 h2 => trivial) rfl rfl (fun w h => by go_simp) E0 ?_
  try simp only [Act.put]
  refine wpAnyL_take (i := 7) (q := 8) (v := .int .i64 x) (fun w' => w'.cell? (la.add i) = some (.int .i64 x)) rfl (by kernel_rfl) (by kernel_rfl) (by kernel_rfl) (fun c a w h => h) rfl (by kernel_rfl) (by decide) (fun ls w => by simp) (fun ls w h1 h2 => h2) rfl rfl (fun w h => by go_simp) E0 ?_
  try simp only [Act.put]
  refine wpAnyL_take (i := 10) (q := 12) (v := .slice OA m oc) (fun w' => True) rfl (by kernel_rfl) (by kernel_rfl) (by kernel_rfl) (fun c a w h => h) rfl (by kernel_rfl) (by decide) (fun ls w => by simp) (fun ls w h1 h2 => trivial) rfl rfl (fun w h => by go_simp) E0 ?_
  try simp only [Act.put]
  refine wpAnyL_take (i := 11) (q := 12) (v := .int .i64 (k : Nat)) (fun w' => True) rfl (by kernel_rfl) (by kernel_rfl) (by kernel_rfl) (fun c a w h => h) rfl (by kernel_rfl) (by decide) (fun ls w => by simp) (fun ls w h1 h2 => trivial) rfl rfl (fun w h => by go_simp) E0 ?_
  try simp only [Act.put]
  refine wpAnyL_take (i := 12) (q := 13) (v := .slice A2 o2.length (oc - k)) (fun w' => True) rfl (by kernel_rfl) (by kernel_rfl) (by kernel_rfl) (fun c a w h => h) rfl (by kernel_rfl) (by decide) (fun ls w => by simp) (fun ls w h1 h2 => trivial) rfl rfl (fun w h => by go_simp) E0 ?_
  try simp only [Act.put]
  have b0 : Below X.heap.size X.drew X.drew := (Below.refl X.heap.size X.drew)
  have n0 : X.drew.ownsRow X.heap.size 3 1 (.slice none 0 0) 0 (flat 1 icell []) := own_nil _ _ _ _ _
  refine wpAnyL_all (rs := [3, 8]) (by kernel_rfl) (by simp) (fun i0 hi0 => ?_)
  rcases List.mem_cons.1 hi0 with rfl | hi0
  · refine wpOp_K (fun K hK => ?_)
    refine wpOp_one rfl rfl ?_
    have hsz := b0.size
    refine append_wp (w := X.drew) (cell := icell) _ _ 29 rfl X.heap.size 3 ii _ 8 Tryz.underlying29 Hii.out Hzi0.out Hzi1.out Hzi2.out rfl (by decide) (.slice none 0 0) 0 [] (by simp [Act.eval]) n0 _ A1 oc o1 (by simp [Act.eval]) HO1.out (fun y j => by rcases j with _ | j <;> rfl) (by unfold maxLen; have := HL1.out; have := HL2.out; simp; omega) (by have := HL1.out; have := HL2.out; simp; omega) hsz ?_
    intro v1 w1 hw1 gw1
    have b1 : Below X.heap.size X.drew w1 := b0.grown gw1 b0.size (fun k e => (n0.lt k e).1)
    refine hK _ _ ⟨(b1.cell hlb).trans E0, ?_⟩
    clear hK K
    try simp only [Act.put]
    refine wpAnyL_one (i := 8) (by kernel_rfl) ?_
    refine wpOp_K (fun K hK => ?_)
    refine wpOp_one rfl rfl ?_
    go_simp
    have b2 : Below X.heap.size X.drew (w1.alloc (.cells #[.int .i64 x] 3)) := b1.alloc b1.size _
    have xU := Box.new w1 #[.int .i64 x] 3
    refine hK _ _ ⟨(b2.cell hlb).trans E0, ?_⟩
    clear hK K
    try simp only [Act.put]
    have n1 := hw1.alloc (.cells #[.int .i64 x] 3)
    have hx1 : Sl 1 icell _ _ (some ⟨w1.heap.size, 0, none⟩) [x] := Sl.of_box xU rfl
    obtain ⟨U, hU⟩ : ∃ U, w1.alloc (.cells #[.int .i64 x] 3) = U := ⟨_, rfl⟩
    rw [hU] at b2 n1 hx1 ⊢
    refine wpAnyL_one (i := 9) (by kernel_rfl) ?_
    refine wpOp_K (fun K hK => ?_)
    refine wpOp_one rfl rfl ?_
    replace hsz := b2.size
    refine append_wp (w := U) (cell := icell) _ _ 29 rfl X.heap.size 3 ii _ 8 Tryz.underlying29 Hii.out Hzi0.out Hzi1.out Hzi2.out rfl (by decide) v1 (0 + o1.length) ([] ++ o1) (by simp [Act.eval]) n1 _ (some ⟨w1.heap.size, 0, none⟩) 1 [x] (by simp [Act.eval]) hx1 (fun y j => by rcases j with _ | j <;> rfl) (by unfold maxLen; have := HL1.out; have := HL2.out; simp; omega) (by have := HL1.out; have := HL2.out; simp; omega) hsz ?_
    intro v2 w2 hw2 gw2
    have b3 : Below X.heap.size X.drew w2 := b2.grown gw2 b2.size (fun k e => (n1.lt k e).1)
    refine hK _ _ ⟨(b3.cell hlb).trans E0, ?_⟩
    clear hK K
    try simp only [Act.put]
    refine wpAnyL_one (i := 13) (by kernel_rfl) ?_
    refine wpOp_K (fun K hK => ?_)
    refine wpOp_one rfl rfl ?_
    replace hsz := b3.size
    refine append_wp (w := w2) (cell := icell) _ _ 29 rfl X.heap.size 3 ii _ 8 Tryz.underlying29 Hii.out Hzi0.out Hzi1.out Hzi2.out rfl (by decide) v2 (0 + o1.length + [x].length) ([] ++ o1 ++ [x]) (by simp [Act.eval]) hw2 _ A2 (oc - k) o2 (by simp [Act.eval]) (HO2.out.below b3) (fun y j => by rcases j with _ | j <;> rfl) (by unfold maxLen; have := HL1.out; have := HL2.out; simp; omega) (by have := HL1.out; have := HL2.out; simp; omega) hsz ?_
    intro v3 w3 hw3 gw3
    have b4 : Below X.heap.size X.drew w3 := b3.grown gw3 b3.size (fun k e => (hw2.lt k e).1)
    refine hK _ _ ⟨(b4.cell hlb).trans E0, ?_⟩
    clear hK K
    try simp only [Act.put]
    refine wpAnyL_one (i := 14) (by kernel_rfl) ?_
    refine wpOp_K (fun K hK => ?_)
    refine wpOp_one rfl rfl ?_
    go_simp
    refine hK _ _ ⟨(b4.cell hlb).trans E0, ?_⟩
    clear hK K
    try simp only [Act.put]
    refine wpAnyL_done (by kernel_rfl) (NoPanic.normal ?_) _
    refine HQ.out _ _ _ _ _ _ _ _ _ _ _ _ _ _ _ v3 ?_ ((Below.refl _ X).drew.trans b4)
    have e : 0 + o1.length + [x].length + o2.length = m + 1 := by rw [HL1.out, HL2.out]; simp; omega
    rw [e] at hw3
    simpa using hw3
  · obtain rfl := List.mem_singleton.1 hi0
    refine wpOp_K (fun K hK => ?_)
    refine wpOp_one rfl rfl ?_
    go_simp
    have b2 : Below X.heap.size X.drew (X.drew.alloc (.cells #[.int .i64 x] 3)) := b0.alloc b0.size _
    have xU := Box.new X.drew #[.int .i64 x] 3
    refine hK _ _ ⟨(b2.cell hlb).trans E0, ?_⟩
    clear hK K
    try simp only [Act.put]
    have n1 := n0.alloc (.cells #[.int .i64 x] 3)
    have hx1 : Sl 1 icell _ _ (some ⟨X.heap.size, 0, none⟩) [x] := Sl.of_box xU rfl
    change wpAnyL Tryz.prog _ _ _ _ _ _ _ (X.drew.alloc (.cells #[.int .i64 x] 3))
    obtain ⟨U, hU⟩ : ∃ U, X.drew.alloc (.cells #[.int .i64 x] 3) = U := ⟨_, rfl⟩
    rw [hU] at b2 n1 hx1 ⊢
    refine wpAnyL_one (i := 3) (by kernel_rfl) ?_
    refine wpOp_K (fun K hK => ?_)
    refine wpOp_one rfl rfl ?_
    have hsz := b2.size
    refine append_wp (w := U) (cell := icell) _ _ 29 rfl X.heap.size 3 ii _ 8 Tryz.underlying29 Hii.out Hzi0.out Hzi1.out Hzi2.out rfl (by decide) (.slice none 0 0) 0 [] (by simp [Act.eval]) n1 _ A1 oc o1 (by simp [Act.eval]) (HO1.out.below b2) (fun y j => by rcases j with _ | j <;> rfl) (by unfold maxLen; have := HL1.out; have := HL2.out; simp; omega) (by have := HL1.out; have := HL2.out; simp; omega) hsz ?_
    intro v1 w1 hw1 gw1
    have b1 : Below X.heap.size X.drew w1 := b2.grown gw1 b2.size (fun k e => (n1.lt k e).1)
    refine hK _ _ ⟨(b1.cell hlb).trans E0, ?_⟩
    clear hK K
    try simp only [Act.put]
    have hx2 : Sl 1 icell w1 w1.heap.size (some ⟨X.heap.size, 0, none⟩) [x] := (hx1.below ((Below.refl U.heap.size U).grown gw1 (Nat.le_refl _) (fun k e => by cases e))).more gw1.size
    refine wpAnyL_one (i := 9) (by kernel_rfl) ?_
    refine wpOp_K (fun K hK => ?_)
    refine wpOp_one rfl rfl ?_
    replace hsz := b1.size
    refine append_wp (w := w1) (cell := icell) _ _ 29 rfl X.heap.size 3 ii _ 8 Tryz.underlying29 Hii.out Hzi0.out Hzi1.out Hzi2.out rfl (by decide) v1 (0 + o1.length) ([] ++ o1) (by simp [Act.eval]) hw1 _ (some ⟨X.heap.size, 0, none⟩) 1 [x] (by simp [Act.eval]) hx2 (fun y j => by rcases j with _ | j <;> rfl) (by unfold maxLen; have := HL1.out; have := HL2.out; simp; omega) (by have := HL1.out; have := HL2.out; simp; omega) hsz ?_
    intro v2 w2 hw2 gw2
    have b3 : Below X.heap.size X.drew w2 := b1.grown gw2 b1.size (fun k e => (hw1.lt k e).1)
    refine hK _ _ ⟨(b3.cell hlb).trans E0, ?_⟩
    clear hK K
    try simp only [Act.put]
    refine wpAnyL_one (i := 13) (by kernel_rfl) ?_
    refine wpOp_K (fun K hK => ?_)
    refine wpOp_one rfl rfl ?_
    replace hsz := b3.size
    refine append_wp (w := w2) (cell := icell) _ _ 29 rfl X.heap.size 3 ii _ 8 Tryz.underlying29 Hii.out Hzi0.out Hzi1.out Hzi2.out rfl (by decide) v2 (0 + o1.length + [x].length) ([] ++ o1 ++ [x]) (by simp [Act.eval]) hw2 _ A2 (oc - k) o2 (by simp [Act.eval]) (HO2.out.below b3) (fun y j => by rcases j with _ | j <;> rfl) (by unfold maxLen; have := HL1.out; have := HL2.out; simp; omega) (by have := HL1.out; have := HL2.out; simp; omega) hsz ?_
    intro v3 w3 hw3 gw3
    have b4 : Below X.heap.size X.drew w3 := b3.grown gw3 b3.size (fun k e => (hw2.lt k e).1)
    refine hK _ _ ⟨(b4.cell hlb).trans E0, ?_⟩
    clear hK K
    try simp only [Act.put]
    refine wpAnyL_one (i := 14) (by kernel_rfl) ?_
    refine wpOp_K (fun K hK => ?_)
    refine wpOp_one rfl rfl ?_
    go_simp
    refine hK _ _ ⟨(b4.cell hlb).trans E0, ?_⟩
    clear hK K
    try simp only [Act.put]
    refine wpAnyL_done (by kernel_rfl) (NoPanic.normal ?_) _
    refine HQ.out _ _ _ _ _ _ _ _ _ _ _ _ _ _ _ v3 ?_ ((Below.refl _ X).drew.trans b4)
    have e : 0 + o1.length + [x].length + o2.length = m + 1 := by rw [HL1.out, HL2.out]; simp; omega
    rw [e] at hw3
    simpa using hw3
theorem own_capP {w : World} {base : Nat} {e : TypeId} {size n l c : Nat} {A : Option Addr} {xs : List Value} (h : w.ownsRow base e size (.slice A l c) n xs) : n ≤ c := by
  rcases h.2 with ⟨hv, h1, h2⟩ | ⟨g, cap, cur, hv, h1, h2, h3, h4, h5, h6⟩
  · injection hv with ha hb hc
    subst hc
    omega
  · injection hv with ha hb hc
    subst hc
    exact h3
theorem M.sIn_len (l : List Int) : (M.sIn l).length = l.length := by rw [M.sIn_eq, M.isort_len]
theorem M.getD0 {l : List Int} {k : Nat} (h : k < l.length) : l.getD k 0 = l[k] := by rw [List.getD_eq_getElem?_getD, List.getElem?_eq_getElem h]; rfl
set_option maxHeartbeats 16000000 in
theorem rSorted_ok (LA : Option Addr) (lc : Nat) (xs : List Int) (w : World) (hS : Sl 1 icell w w.heap.size LA xs) (hl : xs.length ≤ 1000000) :
    Calls Tryz.prog 22 #[.slice LA xs.length lc] w fun e w' => ∃ v, e = .returned v ∧ w'.ownsRow w.heap.size 3 1 v xs.length (flat 1 icell (M.isort xs)) ∧ Below w.heap.size w w' := by
  have HS := Lib.hid hS
  clear hS
  go_enter Tryz.func22, Tryz.ntmps22
  go_wp2_with fail
  go_loopw [3, 4, 5] (fun v i _ wr => ∃ k : Nat, k ≤ xs.length ∧ i = .int .i64 k ∧ Below w.heap.size w wr ∧ wr.ownsRow w.heap.size 3 1 v k (flat 1 icell (M.sIn (xs.take k)))) (fun _ i _ _ => xs.length - (intOf i).toNat)
  case atStart => exact ⟨0, Nat.zero_le _, rfl, Below.refl _ _, own_nil _ _ _ _ _⟩
  case round =>
    obtain ⟨k, hk, rfl, hB, hown⟩ := hrel
    by_cases hlt : k < xs.length
    · have y0 : (0 : Int) ≤ (k : Int) := by omega
      have y1 : (k : Int) < (xs.length : Int) := by omega
      have q0 : decide ((k : Int) < (xs.length : Int)) = true := decide_eq_true y1
      have hol : (M.sIn (xs.take k)).length = k := by rw [M.sIn_len, List.length_take]; omega
      have HNX : Hid (M.sIn (xs.take (k + 1)) = (M.sIn (xs.take k)).take (M.atN (M.sIn (xs.take k)) xs[k]) ++ [xs[k]] ++ (M.sIn (xs.take k)).drop (M.atN (M.sIn (xs.take k)) xs[k])) := Lib.hid (by rw [List.take_succ_eq_append_getElem hlt, M.sIn_snoc]; rfl)
      have hat := M.atN_le (M.sIn (xs.take k)) xs[k]
      have HLT : Hid (∀ j, j < M.atN (M.sIn (xs.take k)) xs[k] → (M.sIn (xs.take k)).getD j 0 < xs[k]) := Lib.hid (fun j h => M.atN_lt h)
      have HAT : Hid (M.atN (M.sIn (xs.take k)) xs[k] < (M.sIn (xs.take k)).length → ¬ (M.sIn (xs.take k)).getD (M.atN (M.sIn (xs.take k)) xs[k]) 0 < xs[k]) := Lib.hid (fun h => M.atN_at h)
      generalize M.sIn (xs.take k) = out at *
      generalize hx : xs[k] = x at *
      have HX := Lib.hid hx
      clear hx
      generalize M.atN out x = at0 at *
      rw [hol] at hat HAT
      obtain ⟨wA, wC, rfl, -⟩ := own_slice (by decide) hown
      have hcap := own_capP hown
      have hown2 : wr.ownsRow w.heap.size 3 1 (.slice wA out.length wC) out.length (flat 1 icell out) := by rw [hol] at hown ⊢; exact hown
      have HOL := Lib.hid hol
      rw [hol]
      clear hown hol
      go_wp2_with fail
      clear q0
      go_loopw [5] (fun a wq => ∃ j : Nat, j ≤ at0 ∧ a = .int .i64 j ∧ Below w.heap.size w wq ∧ wq.ownsRow w.heap.size 3 1 (.slice wA out.length wC) out.length (flat 1 icell out)) (fun a _ => at0 + 1 - (intOf a).toNat)
      case atStart => exact ⟨0, Nat.zero_le _, rfl, hB, hown2⟩
      case round =>
        clear hB hown2
        obtain ⟨j, hj, rfl, hB, hown⟩ := hrel
        obtain ⟨la, hla, hlb, a0⟩ := ((HS.out.below hB).more hB.size).int1 hlt
        rw [HX.out] at a0
        have hso := Sl.of_own (by decide) hown
        by_cases hjo : j < k
        · have hjl : j < out.length := by rw [HOL.out]; exact hjo
          obtain ⟨lb, hlb', hlb2, b0⟩ := hso.int1 hjl
          have z0 : (0 : Int) ≤ (j : Int) := by omega
          have z1 : (j : Int) < (k : Int) := by omega
          have q0 : decide ((j : Int) < (k : Int)) = true := decide_eq_true z1
          by_cases hja : j < at0
          · have hlx := HLT.out j hja
            rw [M.getD0 hjl] at hlx
            have q1 : decide (out[j] < x) = true := decide_eq_true hlx
            have HJA := Lib.hid hja
            clear hlx hso
            generalize out[j] = oj at *
            subst hla
            subst hlb'
            go_wp2_with fail
            refine wp_region_kept wr.heap.size wr (by kernel_rfl) (by kernel_rfl) (Below.refl _ _) ?_
            repeat (go_big_quiet_step (fail))
            refine wpQuiet_nil ?_
            rintro w5 ⟨⟨w5x, hb5⟩, hw5⟩
            dsimp only at hw5
            subst hw5
            replace hB := after_ hB hb5
            replace hown := own_below hown hb5
            clear a0 b0
            go_wp2_with fail
            go_roundw
            case rel => exact ⟨j + 1, HJA.out, by go_num, hB, hown⟩
            case measure => simp [intOf]; omega
          · obtain rfl : j = at0 := by omega
            have hlx := HAT.out hjo
            rw [M.getD0 hjl] at hlx
            have q1 : decide (out[j] < x) = false := decide_eq_false (by omega)
            clear hlx hso
            generalize out[j] = oj at *
            subst hla
            subst hlb'
            go_wp2_with fail
            refine wp_region_kept wr.heap.size wr (by kernel_rfl) (by kernel_rfl) (Below.refl _ _) ?_
            repeat (go_big_quiet_step (fail))
            refine wpQuiet_nil ?_
            rintro w5 ⟨⟨w5x, hb5⟩, hw5⟩
            dsimp only at hw5
            subst hw5
            replace hB := after_ hB hb5
            replace hown := own_below hown hb5
            clear a0 b0
            go_wp2_with fail
            obtain ⟨l3, h3, hb3, d0⟩ := ((HS.out.below hB).more hB.size).int1 hlt
            rw [HX.out] at d0
            refine sorted_reg8 (X := w5) (out := out) (Sl.of_own (by decide) hown) HOL.out hcap ⟨l3, h3, hb3, d0⟩ hlt hat (by omega) (by kernel_rfl) ?_
            intro z29 z30 z31 z32 z33 z34 z35 z36 z37 z38 z39 z40 z41 z42 v6 w6 hown6 hb6
            clear d0
            have hown7 := own_base hown6 hB.size
            rw [← HNX.out] at hown7
            have B6 := after_ hB hb6
            clear hown hown6 hB
            go_wp2_with fail
            go_roundw
            case rel => exact ⟨_, hlt, by go_num, B6, hown7⟩
            case measure => simp [intOf]; omega
        · have e1 : at0 = j := by omega
          obtain rfl : j = k := by omega
          subst e1
          have q0 : decide ((at0 : Int) < (at0 : Int)) = false := decide_eq_false (by omega)
          go_wp2_with fail
          refine wp_region_kept wr.heap.size wr (by kernel_rfl) (by kernel_rfl) (Below.refl _ _) ?_
          repeat (go_big_quiet_step (fail))
          refine wpQuiet_nil ?_
          rintro w5 ⟨⟨w5x, hb5⟩, hw5⟩
          dsimp only at hw5
          subst hw5
          replace hB := after_ hB hb5
          replace hown := own_below hown hb5
          clear a0
          go_wp2_with fail
          obtain ⟨l3, h3, hb3, d0⟩ := ((HS.out.below hB).more hB.size).int1 hlt
          rw [HX.out] at d0
          refine sorted_reg8 (X := w5) (out := out) (Sl.of_own (by decide) hown) HOL.out hcap ⟨l3, h3, hb3, d0⟩ hlt hat (by omega) (by kernel_rfl) ?_
          intro z29 z30 z31 z32 z33 z34 z35 z36 z37 z38 z39 z40 z41 z42 v6 w6 hown6 hb6
          clear d0
          have hown7 := own_base hown6 hB.size
          rw [← HNX.out] at hown7
          have B6 := after_ hB hb6
          clear hown hown6 hB
          go_wp2_with fail
          go_roundw
          case rel => exact ⟨_, hlt, by go_num, B6, hown7⟩
          case measure => simp [intOf]; omega
    · obtain rfl : k = xs.length := by omega
      have q0 : decide ((xs.length : Int) < (xs.length : Int)) = false := decide_eq_false (by omega)
      rw [List.take_length, M.sIn_eq] at hown
      go_wp2_with fail
      go_ret
      exact ⟨_, rfl, hown, hB⟩
end Go.Proofs.YtpkepgcmifdpfaaGreatDoor
end

section
namespace Go.Proofs.YtpkepgcmifdpfaaGreatDoor
open Go Go.RowKit
set_option maxRecDepth 100000
end Go.Proofs.YtpkepgcmifdpfaaGreatDoor
end

section
namespace Go.Proofs.YtpkepgcmifdpfaaGreatDoor
open Go Go.RowKit Go.Maps
set_option maxRecDepth 100000
structure LI (W : World) (base : Nat) (v : Value) (ls : List SLc) : Prop where
  outer : W.ownsRow base 29 1 v ls.length (flat 1 slcell ls)
  inner : ∀ s ∈ ls, W.ownsRow 0 3 1 (.slice s.A s.xs.length s.c) s.xs.length (flat 1 icell s.xs)
section
variable {W W' : World} {base : Nat} {v : Value} {ls : List SLc}
theorem LI.none_ (W : World) (base : Nat) : LI W base (.slice none 0 0) [] := ⟨own_nil _ _ _ _ _, fun s h => absurd h (by simp)⟩
theorem LI.below (h : LI W base v ls) (hb : Below W.heap.size W W') : LI W' base v ls := ⟨own_below h.outer hb, fun s hs => own_below (h.inner s hs) hb⟩
theorem LI.push (h : LI W base v ls) {v' : Value} {s : SLc} (hi : W.ownsRow 0 3 1 (.slice s.A s.xs.length s.c) s.xs.length (flat 1 icell s.xs)) (ho : W'.ownsRow base 29 1 v' (ls.length + 1) (flat 1 slcell (ls ++ [s]))) (hg : W.grownBy W' v.ownBlock) : LI W' base v' (ls ++ [s]) := by
  refine ⟨by rw [List.length_append]; exact ho, fun t ht => ?_⟩
  have hk : ∀ t : SLc, W.ownsRow 0 3 1 (.slice t.A t.xs.length t.c) t.xs.length (flat 1 icell t.xs) → W'.ownsRow 0 3 1 (.slice t.A t.xs.length t.c) t.xs.length (flat 1 icell t.xs) := fun t h1 => h1.kept hg (own_ne h1 h.outer (by decide))
  rcases List.mem_append.1 ht with ht | ht
  · exact hk t (h.inner t ht)
  · obtain rfl := List.mem_singleton.1 ht
    exact hk t hi
theorem LI.put {g n cap : Nat} (h : LI W base (.slice (some ⟨g, 0, none⟩) n cap) ls) {k : Nat} (hk : k < ls.length) {s : SLc} (hin : W.ownsRow 0 3 1 (.slice s.A s.xs.length s.c) s.xs.length (flat 1 icell s.xs)) :
    LI (W.setCell ⟨g, k, none⟩ (.slice s.A s.xs.length s.c)) base (.slice (some ⟨g, 0, none⟩) n cap) (ls.set k s) := by
  have hln : ls.length = n := by
    rcases h.outer.2 with ⟨e, _⟩ | ⟨g2, c2, cur, e, _⟩
    · cases e
    · injection e with e1 e2 e3
      exact e2.symm
  subst hln
  have hrow : ∀ {ba : Nat} {v : Value} {n : Nat} {xs : List Value}, W.ownsRow ba 3 1 v n xs → (W.setCell ⟨g, k, none⟩ (.slice s.A s.xs.length s.c)).ownsRow ba 3 1 v n xs := fun ho => ho.kept (grown_set W g k _) (own_ne ho h.outer (by decide))
  refine ⟨?_, fun t ht => ?_⟩
  · have h3 := own_set h.outer hk (j := 0) (y := s) (u := .slice s.A s.xs.length s.c) (by decide) rfl (fun j' h3 h4 => absurd h3 (by omega))
    rw [Nat.mul_one, Nat.add_zero] at h3
    rw [List.length_set]
    exact h3
  · rcases List.mem_or_eq_of_mem_set ht with h1 | rfl
    · exact hrow (h.inner t h1)
    · exact hrow hin
theorem LI.one_at (h : LI W base v ls) (hk : 0 < ls.length) : ∃ g cap, v = .slice (some ⟨g, 0, none⟩) ls.length cap ∧ base ≤ g := by
  rcases h.outer.2 with ⟨e, h0⟩ | ⟨g, cap, cur, e, hb, -⟩
  · omega
  · exact ⟨g, cap, e, hb⟩
end
structure GP (w1 W : World) (v : Value) (ls : List SLc) : Prop where
  bel : Below w1.heap.size w1 W
  li : LI W w1.heap.size v ls
theorem GP.next {w1 W W' : World} {v : Value} {ls : List SLc} (h : GP w1 W v ls) (hb : Below W.heap.size W W') : GP w1 W' v ls := ⟨after_ h.bel hb, h.li.below hb⟩
theorem M.trIs_some (t : Tr) : ∃ er, M.trIs t er := by
  by_cases h1 : M.trOk t
  · by_cases h2 : t.ps.length ≤ 20000
    · by_cases h3 : M.twAll t.l t.T t.C
      · exact ⟨0, .inl ⟨h1, h2, h3, rfl⟩⟩
      · exact ⟨9, .inr (.inl ⟨h1, h2, h3, rfl⟩)⟩
    · exact ⟨7, .inr (.inr (.inl ⟨h1, by omega, rfl⟩))⟩
  · exact ⟨2, .inr (.inr (.inr ⟨h1, rfl⟩))⟩
end Go.Proofs.YtpkepgcmifdpfaaGreatDoor
end
