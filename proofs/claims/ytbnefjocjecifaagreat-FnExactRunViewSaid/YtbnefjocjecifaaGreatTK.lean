/- A part of the proof of FnExactRunView: an interpreter of the model over plain data, its soundness, and what it makes of the functions that the statement reaches. Conditions: none beyond what the given statement itself says. -/
import Derived.Test.YtbnefjocjecifaaGreatTJ
set_option linter.unusedVariables false
set_option linter.unusedSimpArgs false
set_option linter.unnecessarySimpa false
set_option linter.unusedSectionVars false
/- Equations of the program's functions (printed by wip/tools/emit.py). -/
namespace GoV
open Go Go.Proofs
set_option maxRecDepth 100000
noncomputable section

def xi3q.t {γ:Type} (ret:((List Int) × Bool)→Option γ) (v0:List Int) (v1:List Int) (v2:Zg):Option γ :=
 (xi12 (v2) (v0) (v1)).bind fun (r0:Bool) =>
 bif !r0 then
 ret ([],Bool.false)
 else
 (xi2s ((↑v1.length:Int)) (v2)).bind fun (r1:(List Int)) =>
 (xi20 (v1) (r1)).bind fun (r2:(List Int)) =>
 (xs1a ([v0,r2])).bind fun (r3:(List Int)) =>
 ret (r3,Bool.true)
theorem xi3q.u:∀ b,xi3q.un (xi3q.mk b)=b:=fun _ => by kernel_rfl
theorem xi3q.eq (v0 v1 v2) {b} (h:xi3q.t some v0 v1 v2=some b):xi3q v0 v1 v2=some b:=eqF xi3q.u Tryz.f109 (callT_le E tab) rfl rfl rfl (xi3q.t (rR xi3q.mk) v0 v1 v2) (by kernel_rfl) (by unfold xi3q.t; repeat' first | exact sR | exact sN | exact sL | apply sC | (apply sB; intro _)) h
def xi12.t {γ:Type} (ret:(Bool)→Option γ) (v0:Zg) (v1:List Int) (v2:List Int):Option γ :=
 (xs09 (v0) (v1) (v2)).bind fun (r0:Bool) =>
 ret (!r0)
theorem xi12.u:∀ b,xi12.un (xi12.mk b)=b:=fun _ => by kernel_rfl
theorem xi12.eq (v0 v1 v2) {b} (h:xi12.t some v0 v1 v2=some b):xi12 v0 v1 v2=some b:=eqF xi12.u Tryz.f138 (callT_le E tab) rfl rfl rfl (xi12.t (rR xi12.mk) v0 v1 v2) (by kernel_rfl) (by unfold xi12.t; repeat' first | exact sR | exact sN | exact sL | apply sC | (apply sB; intro _)) h
def xs09.t {γ:Type} (ret:(Bool)→Option γ) (v0:Zg) (v1:List Int) (v2:List Int):Option γ :=
 (xs0e (v0) (v1) (v2)).bind fun (r0:Int) =>
 ret (decide (r0 ≥ (0:Int)))
theorem xs09.u:∀ b,xs09.un (xs09.mk b)=b:=fun _ => by kernel_rfl
theorem xs09.eq (v0 v1 v2) {b} (h:xs09.t some v0 v1 v2=some b):xs09 v0 v1 v2=some b:=eqF xs09.u Tryz.f157 (callT_le E tab) rfl rfl rfl (xs09.t (rR xs09.mk) v0 v1 v2) (by kernel_rfl) (by unfold xs09.t; repeat' first | exact sR | exact sN | exact sL | apply sC | (apply sB; intro _)) h
def xs0e.s2 (v0:Zg) (v1:List Int) (v2:List Int) (v3:Int) (v4:Int):List Cell:=vc (.d .fro Ye v0)::vc (.fn 158 [.rp [.fn 141 [.rp [.d .fro (.sl (.int .i64)) v1] 0,.rp [.d .fro (.sl (.int .i64)) v2] 0]] 0])::nn 5 (vc (iL v3)::vc (iL v4)::nn 10 ([]))
def xs0e.q2:=fun v0 v1 v2 v3 v4 => loopAtL E (callT E tab) 164 Tryz.f164 2 [.r,.l,.r,.b] (xs0e.s2 v0 v1 v2 v3 v4)
def xs0e.l2:=fun v0 v1 v2 v3 v4 => tOf xs0e.mk (xs0e.q2 v0 v1 v2 v3 v4)
def xs0e.t {γ:Type} (ret:(Int)→Option γ) (lp2:Zg→(List Int)→(List Int)→Int→Int→Option γ) (v0:Zg) (v1:List Int) (v2:List Int):Option γ :=
 lp2 (v0) (v1) (v2) ((↑v0.length:Int)) ((0:Int))
def xs0e.t2 {γ:Type} (ret:(Int)→Option γ) (lp2:Zg→(List Int)→(List Int)→Int→Int→Option γ) (v0:Zg) (v1:List Int) (v2:List Int) (v3:Int) (v4:Int):Option γ :=
 bif decide (v4<v3) then
 bif decide ((0:Int)≤v4) then
 bif decide (v4.toNat<v0.length) then
 (xi0y (v0.getD v4.toNat []) (v1) (v2)).bind fun (r0:Bool) =>
 bif r0 then
 ret (v4)
 else
 lp2 (v0) (v1) (v2) (v3) (IntKind.i64.wrap (v4+(1:Int)))
 else
 none
 else
 none
 else
 ret ((-1:Int))
theorem xs0e.u:∀ b,xs0e.un (xs0e.mk b)=b:=fun _ => by kernel_rfl
theorem xs0e.eq (v0 v1 v2) {b} (h:xs0e.t some xs0e.l2 v0 v1 v2=some b):xs0e v0 v1 v2=some b:=eqF xs0e.u Tryz.f164 (callT_le E tab) rfl rfl rfl (xs0e.t (rR xs0e.mk) xs0e.q2 v0 v1 v2) (by kernel_rfl) (by unfold xs0e.t; repeat' first | exact sR | exact sN | exact sL | apply sC | (apply sB; intro _)) h
theorem xs0e.eq2 (v0 v1 v2 v3 v4) {b} (h:xs0e.t2 some xs0e.l2 v0 v1 v2 v3 v4=some b):xs0e.l2 v0 v1 v2 v3 v4=some b:=eqL xs0e.u (xs0e.t2 (rR xs0e.mk) xs0e.q2 v0 v1 v2 v3 v4) (by kernel_rfl) (by unfold xs0e.t2; repeat' first | exact sR | exact sN | exact sL | apply sC | (apply sB; intro _)) h
def xi0y.t {γ:Type} (ret:(Bool)→Option γ) (v0:List Int) (v1:List Int) (v2:List Int):Option γ :=
 (xi2q (v0) (v1) (v2)).bind fun (r0:Bool) =>
 ret (!r0)
theorem xi0y.u:∀ b,xi0y.un (xi0y.mk b)=b:=fun _ => by kernel_rfl
theorem xi0y.eq (v0 v1 v2) {b} (h:xi0y.t some v0 v1 v2=some b):xi0y v0 v1 v2=some b:=eqF xi0y.u Tryz.f158 (callT_le E tab) rfl rfl rfl (xi0y.t (rR xi0y.mk) v0 v1 v2) (by kernel_rfl) (by unfold xi0y.t; repeat' first | exact sR | exact sN | exact sL | apply sC | (apply sB; intro _)) h
def xi2q.t {γ:Type} (ret:(Bool)→Option γ) (v0:List Int) (v1:List Int) (v2:List Int):Option γ :=
 bif decide (Int.toNat (0:Int)<v0.length) then
 bif decide ((0:Int)≤v0.getD (Int.toNat (0:Int)) (0:Int)) then
 bif decide ((v0.getD (Int.toNat (0:Int)) (0:Int)).toNat<v1.length) then
 bif decide (Int.toNat (1:Int)<v0.length) then
 bif decide ((0:Int)≤v0.getD (Int.toNat (1:Int)) (0:Int)) then
 bif decide ((v0.getD (Int.toNat (1:Int)) (0:Int)).toNat<v2.length) then
 ret (v1.getD (v0.getD (Int.toNat (0:Int)) (0:Int)).toNat (0:Int) ==   v2.getD (v0.getD (Int.toNat (1:Int)) (0:Int)).toNat (0:Int))
 else
 none
 else
 none
 else
 none
 else
 none
 else
 none
 else
 none
theorem xi2q.u:∀ b,xi2q.un (xi2q.mk b)=b:=fun _ => by kernel_rfl
theorem xi2q.eq (v0 v1 v2) {b} (h:xi2q.t some v0 v1 v2=some b):xi2q v0 v1 v2=some b:=eqF xi2q.u Tryz.f141 (callT_le E tab) rfl rfl rfl (xi2q.t (rR xi2q.mk) v0 v1 v2) (by kernel_rfl) (by unfold xi2q.t; repeat' first | exact sR | exact sN | exact sL | apply sC | (apply sB; intro _)) h
def xi20.s3 (v0:List Int) (v1:List Int) (v2:List Int) (v3:List Int) (v4:Int) (v5:Int):List Cell:=nn 2 (⟨(.box false),[.d .fro (.sl (.int .i64)) v0],false,false,false,0,0⟩::nn 1 (⟨(.box false),[.d .deep (.sl (.int .i64)) v1],false,false,false,0,0⟩::⟨(.box false),[.d .deep (.sl (.int .i64)) v2],false,false,false,0,0⟩::nn 2 (vc (.d .fro (.sl (.int .i64)) v3)::vc (iL v4)::vc (iL v5)::nn 15 ([]))))
def xi20.q3:=fun v0 v1 v2 v3 v4 v5 => loopAtL E (callT E tab) 143 Tryz.f143 2 [.r,.r,.l,.r,.b] (xi20.s3 v0 v1 v2 v3 v4 v5)
def xi20.l3:=fun v0 v1 v2 v3 v4 v5 => tOf xi20.mk (xi20.q3 v0 v1 v2 v3 v4 v5)
def xi20.t {γ:Type} (ret:((List Int))→Option γ) (lp3:(List Int)→(List Int)→(List Int)→(List Int)→Int→Int→Option γ) (v0:List Int) (v1:List Int):Option γ :=
 lp3 (v0) ([]) ([]) (v1) ((↑v1.length:Int)) ((0:Int))
def xi20.t3 {γ:Type} (ret:((List Int))→Option γ) (lp3:(List Int)→(List Int)→(List Int)→(List Int)→Int→Int→Option γ) (v0:List Int) (v1:List Int) (v2:List Int) (v3:List Int) (v4:Int) (v5:Int):Option γ :=
 bif decide (v5<v4) then
 bif decide ((0:Int)≤v5) then
 bif decide (v5.toNat<v3.length) then
 bif decide ((0:Int)≤v3.getD v5.toNat (0:Int)) then
 bif decide ((v3.getD v5.toNat (0:Int)).toNat<v0.length) then
 bif decide (v2.length+[v0.getD (v3.getD v5.toNat (0:Int)).toNat (0:Int)].length≤(4294967296:Nat)) then
 lp3 (v0) (v1) (v2 ++ [v0.getD (v3.getD v5.toNat (0:Int)).toNat (0:Int)]) (v3) (v4) (IntKind.i64.wrap (v5+(1:Int)))
 else
 none
 else
 none
 else
 none
 else
 none
 else
 none
 else
 ret (v2)
theorem xi20.u:∀ b,xi20.un (xi20.mk b)=b:=fun _ => by kernel_rfl
theorem xi20.eq (v0 v1) {b} (h:xi20.t some xi20.l3 v0 v1=some b):xi20 v0 v1=some b:=eqF xi20.u Tryz.f143 (callT_le E tab) rfl rfl rfl (xi20.t (rR xi20.mk) xi20.q3 v0 v1) (by kernel_rfl) (by unfold xi20.t; repeat' first | exact sR | exact sN | exact sL | apply sC | (apply sB; intro _)) h
theorem xi20.eq3 (v0 v1 v2 v3 v4 v5) {b} (h:xi20.t3 some xi20.l3 v0 v1 v2 v3 v4 v5=some b):xi20.l3 v0 v1 v2 v3 v4 v5=some b:=eqL xi20.u (xi20.t3 (rR xi20.mk) xi20.q3 v0 v1 v2 v3 v4 v5) (by kernel_rfl) (by unfold xi20.t3; repeat' first | exact sR | exact sN | exact sL | apply sC | (apply sB; intro _)) h
def xs1a.s11 (v0:List Int) (v1:Zg) (v2:Int) (v3:Int):List Cell:=nn 6 (vc (.d .deep (.sl (.int .i64)) v0)::nn 18 (vc (.d .fro Ye v1)::vc (iL v2)::vc (iL v3)::nn 8 ([])))
def xs1a.q11:=fun v0 v1 v2 v3 => loopAtL E (callT E tab) 142 Tryz.f142 1 [.r,.r,.r,.r,.l,.r,.b] (xs1a.s11 v0 v1 v2 v3)
def xs1a.l11:=fun v0 v1 v2 v3 => tOf xs1a.mk (xs1a.q11 v0 v1 v2 v3)
def xs1a.s3 (v0:Zg) (v1:Int) (v2:Zg) (v3:Int) (v4:Int):List Cell:=vc (.d .fro Ye v0)::nn 2 (vc (iL v1)::nn 5 (vc (.d .fro Ye v2)::vc (iL v3)::vc (iL v4)::nn 24 ([])))
def xs1a.q3:=fun v0 v1 v2 v3 v4 => loopAtL E (callT E tab) 142 Tryz.f142 1 [.r,.r,.l,.r,.b] (xs1a.s3 v0 v1 v2 v3 v4)
def xs1a.l3:=fun v0 v1 v2 v3 v4 => tOf xs1a.mk (xs1a.q3 v0 v1 v2 v3 v4)
def xs1a.t {γ:Type} (ret:((List Int))→Option γ) (lp3:Zg→Int→Zg→Int→Int→Option γ) (v0:Zg):Option γ :=
 lp3 (v0) ((0:Int)) (v0) ((↑v0.length:Int)) ((0:Int))
def xs1a.t11 {γ:Type} (ret:((List Int))→Option γ) (lp11:(List Int)→Zg→Int→Int→Option γ) (v0:List Int) (v1:Zg) (v2:Int) (v3:Int):Option γ :=
 bif decide (v3<v2) then
 bif decide ((0:Int)≤v3) then
 bif decide (v3.toNat<v1.length) then
 bif decide (v0.length+(v1.getD v3.toNat []).length≤(4294967296:Nat)) then
 lp11 (v0 ++ v1.getD v3.toNat []) (v1) (v2) (IntKind.i64.wrap (v3+(1:Int)))
 else
 none
 else
 none
 else
 none
 else
 ret (v0)
def xs1a.t3 {γ:Type} (ret:((List Int))→Option γ) (lp11:(List Int)→Zg→Int→Int→Option γ) (lp3:Zg→Int→Zg→Int→Int→Option γ) (v0:Zg) (v1:Int) (v2:Zg) (v3:Int) (v4:Int):Option γ :=
 bif decide (v4<v3) then
 bif decide ((0:Int)≤v4) then
 bif decide (v4.toNat<v2.length) then
 bif decide (IntKind.i64.wrap (v1+(↑(v2.getD v4.toNat []).length:Int))<(0:Int)) then
 none
 else
 lp3 (v0) (IntKind.i64.wrap (v1+(↑(v2.getD v4.toNat []).length:Int))) (v2) (v3) (IntKind.i64.wrap (v4+(1:Int)))
 else
 none
 else
 none
 else
 (xs15 (v1)).bind fun (r0:(List Int)) =>
 lp11 (r0) (v0) ((↑v0.length:Int)) ((0:Int))
theorem xs1a.u:∀ b,xs1a.un (xs1a.mk b)=b:=fun _ => by kernel_rfl
theorem xs1a.eq (v0) {b} (h:xs1a.t some xs1a.l3 v0=some b):xs1a v0=some b:=eqF xs1a.u Tryz.f142 (callT_le E tab) rfl rfl rfl (xs1a.t (rR xs1a.mk) xs1a.q3 v0) (by kernel_rfl) (by unfold xs1a.t; repeat' first | exact sR | exact sN | exact sL | apply sC | (apply sB; intro _)) h
theorem xs1a.eq11 (v0 v1 v2 v3) {b} (h:xs1a.t11 some xs1a.l11 v0 v1 v2 v3=some b):xs1a.l11 v0 v1 v2 v3=some b:=eqL xs1a.u (xs1a.t11 (rR xs1a.mk) xs1a.q11 v0 v1 v2 v3) (by kernel_rfl) (by unfold xs1a.t11; repeat' first | exact sR | exact sN | exact sL | apply sC | (apply sB; intro _)) h
theorem xs1a.eq3 (v0 v1 v2 v3 v4) {b} (h:xs1a.t3 some xs1a.l11 xs1a.l3 v0 v1 v2 v3 v4=some b):xs1a.l3 v0 v1 v2 v3 v4=some b:=eqL xs1a.u (xs1a.t3 (rR xs1a.mk) xs1a.q11 xs1a.q3 v0 v1 v2 v3 v4) (by kernel_rfl) (by unfold xs1a.t3; repeat' first | exact sR | exact sN | exact sL | apply sC | (apply sB; intro _)) h
def xs15.t {γ:Type} (ret:((List Int))→Option γ) (v0:Int):Option γ :=
 bif decide (v0<(0:Int)) then
 none
 else
 bif decide (IntKind.i64.wrap (v0 - IntKind.i64.wrap ((0:Int) - (0:Int))) > (0:Int)) then
 bif decide ((1:Int)≤IntKind.i64.wrap (v0 - IntKind.i64.wrap ((0:Int) - (0:Int)))) then
 bif decide (IntKind.i64.wrap (v0 - IntKind.i64.wrap ((0:Int) - (0:Int)))≤(↑(4294967296:Nat):Int)) then
 ret (List.take ((0:Int) - Option.none.getD (0:Int)).toNat   (List.drop (Option.none.getD (0:Int)).toNat     (List.replicate (IntKind.i64.wrap (v0 - IntKind.i64.wrap ((0:Int) - (0:Int)))).toNat (0:Int))))
 else
 none
 else
 none
 else
 ret ([])
theorem xs15.u:∀ b,xs15.un (xs15.mk b)=b:=fun _ => by kernel_rfl
theorem xs15.eq (v0) {b} (h:xs15.t some v0=some b):xs15 v0=some b:=eqF xs15.u Tryz.f160 (callT_le E tab) rfl rfl rfl (xs15.t (rR xs15.mk) v0) (by kernel_rfl) (by unfold xs15.t; repeat' first | exact sR | exact sN | exact sL | apply sC | (apply sB; intro _)) h
def xi3r.s7 (v0:Int) (v1:Zd) (v2:Int) (v3:Zd) (v4:Zd) (v5:Int) (v6:Int) (v7:Int):List Cell:=nn 4 (⟨(.box false),[iL v0,.d .deep Yd v1],false,false,false,0,0⟩::⟨(.box false),[iL v2,.d .deep Yd v3],false,false,false,0,0⟩::vc (.d .sha Yd v4)::vc (iL v5)::vc (iL v6)::vc (iL v7)::nn 55 ([]))
def xi3r.q7:=fun v0 v1 v2 v3 v4 v5 v6 v7 => loopAtL E (callT E tab) 49 Tryz.f49 2 [.r,.r,.r,.r,.l,.r,.b,.o,.r,.b,.r,.l,.b] (xi3r.s7 v0 v1 v2 v3 v4 v5 v6 v7)
def xi3r.l7:=fun v0 v1 v2 v3 v4 v5 v6 v7 => tOf xi3r.mk (xi3r.q7 v0 v1 v2 v3 v4 v5 v6 v7)
def xi3r.s5 (v0:Int) (v1:Zd) (v2:Int) (v3:Zd) (v4:Zd) (v5:Int):List Cell:=nn 4 (⟨(.box false),[iL v0,.d .deep Yd v1],false,false,false,0,0⟩::⟨(.box false),[iL v2,.d .deep Yd v3],false,false,false,0,0⟩::vc (.d .sha Yd v4)::vc (iL v5)::nn 57 ([]))
def xi3r.q5:=fun v0 v1 v2 v3 v4 v5 => loopAtL E (callT E tab) 49 Tryz.f49 2 [.r,.r,.r,.r,.l,.r,.b] (xi3r.s5 v0 v1 v2 v3 v4 v5)
def xi3r.l5:=fun v0 v1 v2 v3 v4 v5 => tOf xi3r.mk (xi3r.q5 v0 v1 v2 v3 v4 v5)
def xi3r.t {γ:Type} (ret:(Int × Zd)→Option γ) (lp5:Int→Zd→Int→Zd→Zd→Int→Option γ) (v0:Int) (v1:List Zd):Option γ :=
 (xs0o (v1)).bind fun (r0:Zd) =>
 (xs04 (r0)).bind fun (r1:Zd) =>
 lp5 ((0:Int)) ([]) (v0) ([]) (r1) ((0:Int))
def xi3r.t7 {γ:Type} (ret:(Int × Zd)→Option γ) (lp7:Int→Zd→Int→Zd→Zd→Int→Int→Int→Option γ) (lp5:Int→Zd→Int→Zd→Zd→Int→Option γ) (v0:Int) (v1:Zd) (v2:Int) (v3:Zd) (v4:Zd) (v5:Int) (v6:Int) (v7:Int):Option γ :=
 bif decide (v7<(↑v4.length:Int)) then
 bif decide ((0:Int)≤v7) then
 bif decide (v7.toNat<v4.length) then
 bif decide (v7.toNat<v4.length) then
 bif decide ((0:Int)≤v5) then
 bif decide (v5.toNat<v4.length) then
 bif decide (v5.toNat<v4.length) then
 (xi1v ((v4.getD v7.toNat ([],(0:Int))).fst) ((v4.getD v5.toNat ([],(0:Int))).fst)).bind fun (r2:Int) =>
 bif r2 == (0:Int) then
 bif decide ((0:Int)≤v7) then
 bif decide (v7.toNat<v4.length) then
 bif decide (v7.toNat<v4.length) then
 lp7 (v0) (v1) (v2) (v3) (v4) (v5) (IntKind.i64.wrap (v6+(v4.getD v7.toNat ([],(0:Int))).snd)) (IntKind.i64.wrap (v7+(1:Int)))
 else
 none
 else
 none
 else
 none
 else
 bif v6 != (0:Int) then
 bif decide ((0:Int)≤v5) then
 bif decide (v5.toNat<v4.length) then
 bif decide (v5.toNat<v4.length) then
 (xi33 ((v4.getD v5.toNat ([],(0:Int))).fst)).bind fun (r3:(List Int)) =>
 bif decide (v3.length+[(r3,v6)].length≤(4294967296:Nat)) then
 lp5 (v0) (v1) (v2) (v3 ++ [(r3,v6)]) (v4) (v7)
 else
 none
 else
 none
 else
 none
 else
 none
 else
 lp5 (v0) (v1) (v2) (v3) (v4) (v7)
 else
 none
 else
 none
 else
 none
 else
 none
 else
 none
 else
 none
 else
 bif v6 != (0:Int) then
 bif decide ((0:Int)≤v5) then
 bif decide (v5.toNat<v4.length) then
 bif decide (v5.toNat<v4.length) then
 (xi33 ((v4.getD v5.toNat ([],(0:Int))).fst)).bind fun (r4:(List Int)) =>
 bif decide (v3.length+[(r4,v6)].length≤(4294967296:Nat)) then
 lp5 (v0) (v1) (v2) (v3 ++ [(r4,v6)]) (v4) (v7)
 else
 none
 else
 none
 else
 none
 else
 none
 else
 lp5 (v0) (v1) (v2) (v3) (v4) (v7)
def xi3r.t5 {γ:Type} (ret:(Int × Zd)→Option γ) (lp7:Int→Zd→Int→Zd→Zd→Int→Int→Int→Option γ) (v0:Int) (v1:Zd) (v2:Int) (v3:Zd) (v4:Zd) (v5:Int):Option γ :=
 bif decide (v5<(↑v4.length:Int)) then
 lp7 (v0) (v1) (v2) (v3) (v4) (v5) ((0:Int)) (v5)
 else
 ret (v2,v3)
theorem xi3r.u:∀ b,xi3r.un (xi3r.mk b)=b:=fun _ => by kernel_rfl
theorem xi3r.eq (v0 v1) {b} (h:xi3r.t some xi3r.l5 v0 v1=some b):xi3r v0 v1=some b:=eqF xi3r.u Tryz.f49 (callT_le E tab) rfl rfl rfl (xi3r.t (rR xi3r.mk) xi3r.q5 v0 v1) (by kernel_rfl) (by unfold xi3r.t; repeat' first | exact sR | exact sN | exact sL | apply sC | (apply sB; intro _)) h
theorem xi3r.eq7 (v0 v1 v2 v3 v4 v5 v6 v7) {b} (h:xi3r.t7 some xi3r.l7 xi3r.l5 v0 v1 v2 v3 v4 v5 v6 v7=some b):xi3r.l7 v0 v1 v2 v3 v4 v5 v6 v7=some b:=eqL xi3r.u (xi3r.t7 (rR xi3r.mk) xi3r.q7 xi3r.q5 v0 v1 v2 v3 v4 v5 v6 v7) (by kernel_rfl) (by unfold xi3r.t7; repeat' first | exact sR | exact sN | exact sL | apply sC | (apply sB; intro _)) h
theorem xi3r.eq5 (v0 v1 v2 v3 v4 v5) {b} (h:xi3r.t5 some xi3r.l7 v0 v1 v2 v3 v4 v5=some b):xi3r.l5 v0 v1 v2 v3 v4 v5=some b:=eqL xi3r.u (xi3r.t5 (rR xi3r.mk) xi3r.q7 v0 v1 v2 v3 v4 v5) (by kernel_rfl) (by unfold xi3r.t5; repeat' first | exact sR | exact sN | exact sL | apply sC | (apply sB; intro _)) h
def xs0o.s11 (v0:Zd) (v1:List Zd) (v2:Int) (v3:Int):List Cell:=nn 6 (vc (.d .sha Yd v0)::nn 18 (vc (.d .fro (.sl Yd) v1)::vc (iL v2)::vc (iL v3)::nn 8 ([])))
def xs0o.q11:=fun v0 v1 v2 v3 => loopAtL E (callT E tab) 82 Tryz.f82 1 [.r,.r,.r,.r,.l,.r,.b] (xs0o.s11 v0 v1 v2 v3)
def xs0o.l11:=fun v0 v1 v2 v3 => tOf xs0o.mk (xs0o.q11 v0 v1 v2 v3)
def xs0o.s3 (v0:List Zd) (v1:Int) (v2:List Zd) (v3:Int) (v4:Int):List Cell:=vc (.d .fro (.sl Yd) v0)::nn 2 (vc (iL v1)::nn 5 (vc (.d .fro (.sl Yd) v2)::vc (iL v3)::vc (iL v4)::nn 24 ([])))
def xs0o.q3:=fun v0 v1 v2 v3 v4 => loopAtL E (callT E tab) 82 Tryz.f82 1 [.r,.r,.l,.r,.b] (xs0o.s3 v0 v1 v2 v3 v4)
def xs0o.l3:=fun v0 v1 v2 v3 v4 => tOf xs0o.mk (xs0o.q3 v0 v1 v2 v3 v4)
def xs0o.t {γ:Type} (ret:(Zd)→Option γ) (lp3:(List Zd)→Int→(List Zd)→Int→Int→Option γ) (v0:List Zd):Option γ :=
 lp3 (v0) ((0:Int)) (v0) ((↑v0.length:Int)) ((0:Int))
def xs0o.t11 {γ:Type} (ret:(Zd)→Option γ) (lp11:Zd→(List Zd)→Int→Int→Option γ) (v0:Zd) (v1:List Zd) (v2:Int) (v3:Int):Option γ :=
 bif decide (v3<v2) then
 bif decide ((0:Int)≤v3) then
 bif decide (v3.toNat<v1.length) then
 bif decide (v0.length+(v1.getD v3.toNat []).length≤(4294967296:Nat)) then
 lp11 (v0 ++ v1.getD v3.toNat []) (v1) (v2) (IntKind.i64.wrap (v3+(1:Int)))
 else
 none
 else
 none
 else
 none
 else
 ret (v0)
def xs0o.t3 {γ:Type} (ret:(Zd)→Option γ) (lp11:Zd→(List Zd)→Int→Int→Option γ) (lp3:(List Zd)→Int→(List Zd)→Int→Int→Option γ) (v0:List Zd) (v1:Int) (v2:List Zd) (v3:Int) (v4:Int):Option γ :=
 bif decide (v4<v3) then
 bif decide ((0:Int)≤v4) then
 bif decide (v4.toNat<v2.length) then
 bif decide (IntKind.i64.wrap (v1+(↑(v2.getD v4.toNat []).length:Int))<(0:Int)) then
 none
 else
 lp3 (v0) (IntKind.i64.wrap (v1+(↑(v2.getD v4.toNat []).length:Int))) (v2) (v3) (IntKind.i64.wrap (v4+(1:Int)))
 else
 none
 else
 none
 else
 (xs0n (v1)).bind fun (r0:Zd) =>
 lp11 (r0) (v0) ((↑v0.length:Int)) ((0:Int))
theorem xs0o.u:∀ b,xs0o.un (xs0o.mk b)=b:=fun _ => by kernel_rfl
theorem xs0o.eq (v0) {b} (h:xs0o.t some xs0o.l3 v0=some b):xs0o v0=some b:=eqF xs0o.u Tryz.f82 (callT_le E tab) rfl rfl rfl (xs0o.t (rR xs0o.mk) xs0o.q3 v0) (by kernel_rfl) (by unfold xs0o.t; repeat' first | exact sR | exact sN | exact sL | apply sC | (apply sB; intro _)) h
theorem xs0o.eq11 (v0 v1 v2 v3) {b} (h:xs0o.t11 some xs0o.l11 v0 v1 v2 v3=some b):xs0o.l11 v0 v1 v2 v3=some b:=eqL xs0o.u (xs0o.t11 (rR xs0o.mk) xs0o.q11 v0 v1 v2 v3) (by kernel_rfl) (by unfold xs0o.t11; repeat' first | exact sR | exact sN | exact sL | apply sC | (apply sB; intro _)) h
theorem xs0o.eq3 (v0 v1 v2 v3 v4) {b} (h:xs0o.t3 some xs0o.l11 xs0o.l3 v0 v1 v2 v3 v4=some b):xs0o.l3 v0 v1 v2 v3 v4=some b:=eqL xs0o.u (xs0o.t3 (rR xs0o.mk) xs0o.q11 xs0o.q3 v0 v1 v2 v3 v4) (by kernel_rfl) (by unfold xs0o.t3; repeat' first | exact sR | exact sN | exact sL | apply sC | (apply sB; intro _)) h
def xs0n.t {γ:Type} (ret:(Zd)→Option γ) (v0:Int):Option γ :=
 bif decide (v0<(0:Int)) then
 none
 else
 bif decide (IntKind.i64.wrap (v0 - IntKind.i64.wrap ((0:Int) - (0:Int))) > (0:Int)) then
 bif decide ((1:Int)≤IntKind.i64.wrap (v0 - IntKind.i64.wrap ((0:Int) - (0:Int)))) then
 bif decide (IntKind.i64.wrap (v0 - IntKind.i64.wrap ((0:Int) - (0:Int)))≤(↑(4294967296:Nat):Int)) then
 ret (List.take ((0:Int) - Option.none.getD (0:Int)).toNat   (List.drop (Option.none.getD (0:Int)).toNat     (List.replicate (IntKind.i64.wrap (v0 - IntKind.i64.wrap ((0:Int) - (0:Int)))).toNat ([],(0:Int)))))
 else
 none
 else
 none
 else
 ret ([])
theorem xs0n.u:∀ b,xs0n.un (xs0n.mk b)=b:=fun _ => by kernel_rfl
theorem xs0n.eq (v0) {b} (h:xs0n.t some v0=some b):xs0n v0=some b:=eqF xs0n.u Tryz.f123 (callT_le E tab) rfl rfl rfl (xs0n.t (rR xs0n.mk) v0) (by kernel_rfl) (by unfold xs0n.t; repeat' first | exact sR | exact sN | exact sL | apply sC | (apply sB; intro _)) h
def xs04.t {γ:Type} (ret:(Zd)→Option γ) (v0:Zd):Option γ :=
 (xs0j (v0) ((↑v0.length:Int))).bind fun (r0:Zd) =>
 ret (r0)
theorem xs04.u:∀ b,xs04.un (xs04.mk b)=b:=fun _ => by kernel_rfl
theorem xs04.eq (v0) {b} (h:xs04.t some v0=some b):xs04 v0=some b:=eqF xs04.u Tryz.f83 (callT_le E tab) rfl rfl rfl (xs04.t (rR xs04.mk) v0) (by kernel_rfl) (by unfold xs04.t; repeat' first | exact sR | exact sN | exact sL | apply sC | (apply sB; intro _)) h
def xs0j.s9 (v0:Zd) (v1:Int) (v2:Int) (v3:Int) (v4:Int):List Cell:=⟨(.val .one),[.d .sha Yd v0],true,false,false,0,0⟩::vc (iL v1)::vc (.fn 84 [])::nn 3 (vc (iL v2)::vc (iL v3)::vc (iL v4)::nn 54 ([]))
def xs0j.q9:=fun v0 v1 v2 v3 v4 => loopAtL E (callT E tab) 124 Tryz.f124 3 [.r,.r,.r,.r,.b,.o,.r,.b,.r,.l,.b] (xs0j.s9 v0 v1 v2 v3 v4)
def xs0j.l9:=fun v0 v1 v2 v3 v4 => tOf xs0j.mk (xs0j.q9 v0 v1 v2 v3 v4)
def xs0j.s7 (v0:Zd) (v1:Int) (v2:Int):List Cell:=⟨(.val .one),[.d .sha Yd v0],true,false,false,0,0⟩::vc (iL v1)::vc (.fn 84 [])::nn 3 (vc (iL v2)::nn 56 ([]))
def xs0j.q7:=fun v0 v1 v2 => loopAtL E (callT E tab) 124 Tryz.f124 3 [.r,.r,.r,.r,.b] (xs0j.s7 v0 v1 v2)
def xs0j.l7:=fun v0 v1 v2 => tOf xs0j.mk (xs0j.q7 v0 v1 v2)
def xs0j.s2 (v0:Zd) (v1:Int) (v2:Int) (v3:Int) (v4:Int):List Cell:=⟨(.val .one),[.d .sha Yd v0],true,false,false,0,0⟩::vc (iL v1)::vc (.fn 84 [])::nn 3 (vc (iL v2)::vc (iL v3)::vc (iL v4)::nn 54 ([]))
def xs0j.q2:=fun v0 v1 v2 v3 v4 => loopAtL E (callT E tab) 124 Tryz.f124 3 [.r,.r,.l,.b] (xs0j.s2 v0 v1 v2 v3 v4)
def xs0j.l2:=fun v0 v1 v2 v3 v4 => tOf xs0j.mk (xs0j.q2 v0 v1 v2 v3 v4)
def xs0j.t {γ:Type} (ret:(Zd)→Option γ) (lp2:Zd→Int→Int→Int→Int→Option γ) (v0:Zd) (v1:Int):Option γ :=
 lp2 (v0) (v1) ((20:Int)) ((0:Int)) ((20:Int))
def xs0j.t9 {γ:Type} (ret:(Zd)→Option γ) (lp9:Zd→Int→Int→Int→Int→Option γ) (lp7:Zd→Int→Int→Option γ) (v0:Zd) (v1:Int) (v2:Int) (v3:Int) (v4:Int):Option γ :=
 bif decide (v4≤v1) then
 (xs0h (v0) (v3) (IntKind.i64.wrap (v3+v2)) (v4)).bind fun (r2:Zd) =>
 lp9 (r2) (v1) (v2) (v4) (IntKind.i64.wrap (v4+IntKind.i64.wrap ((2:Int) * v2)))
 else
 bif decide (IntKind.i64.wrap (v3+v2)<v1) then
 (xs0h (v0) (v3) (IntKind.i64.wrap (v3+v2)) (v1)).bind fun (r3:Zd) =>
 lp7 (r3) (v1) (IntKind.i64.wrap (v2 * (2:Int)))
 else
 lp7 (v0) (v1) (IntKind.i64.wrap (v2 * (2:Int)))
def xs0j.t7 {γ:Type} (ret:(Zd)→Option γ) (lp9:Zd→Int→Int→Int→Int→Option γ) (v0:Zd) (v1:Int) (v2:Int):Option γ :=
 bif decide (v2<v1) then
 lp9 (v0) (v1) (v2) ((0:Int)) (IntKind.i64.wrap ((2:Int) * v2))
 else
 ret (v0)
def xs0j.t2 {γ:Type} (ret:(Zd)→Option γ) (lp7:Zd→Int→Int→Option γ) (lp2:Zd→Int→Int→Int→Int→Option γ) (v0:Zd) (v1:Int) (v2:Int) (v3:Int) (v4:Int):Option γ :=
 bif decide (v4≤v1) then
 (xs0a (v0) (v3) (v4)).bind fun (r0:Zd) =>
 lp2 (r0) (v1) (v2) (v4) (IntKind.i64.wrap (v4+v2))
 else
 (xs0a (v0) (v3) (v1)).bind fun (r1:Zd) =>
 lp7 (r1) (v1) (v2)
theorem xs0j.u:∀ b,xs0j.un (xs0j.mk b)=b:=fun _ => by kernel_rfl
theorem xs0j.eq (v0 v1) {b} (h:xs0j.t some xs0j.l2 v0 v1=some b):xs0j v0 v1=some b:=eqF xs0j.u Tryz.f124 (callT_le E tab) rfl rfl rfl (xs0j.t (rR xs0j.mk) xs0j.q2 v0 v1) (by kernel_rfl) (by unfold xs0j.t; repeat' first | exact sR | exact sN | exact sL | apply sC | (apply sB; intro _)) h
theorem xs0j.eq9 (v0 v1 v2 v3 v4) {b} (h:xs0j.t9 some xs0j.l9 xs0j.l7 v0 v1 v2 v3 v4=some b):xs0j.l9 v0 v1 v2 v3 v4=some b:=eqL xs0j.u (xs0j.t9 (rR xs0j.mk) xs0j.q9 xs0j.q7 v0 v1 v2 v3 v4) (by kernel_rfl) (by unfold xs0j.t9; repeat' first | exact sR | exact sN | exact sL | apply sC | (apply sB; intro _)) h
theorem xs0j.eq7 (v0 v1 v2) {b} (h:xs0j.t7 some xs0j.l9 v0 v1 v2=some b):xs0j.l7 v0 v1 v2=some b:=eqL xs0j.u (xs0j.t7 (rR xs0j.mk) xs0j.q9 v0 v1 v2) (by kernel_rfl) (by unfold xs0j.t7; repeat' first | exact sR | exact sN | exact sL | apply sC | (apply sB; intro _)) h
theorem xs0j.eq2 (v0 v1 v2 v3 v4) {b} (h:xs0j.t2 some xs0j.l7 xs0j.l2 v0 v1 v2 v3 v4=some b):xs0j.l2 v0 v1 v2 v3 v4=some b:=eqL xs0j.u (xs0j.t2 (rR xs0j.mk) xs0j.q7 xs0j.q2 v0 v1 v2 v3 v4) (by kernel_rfl) (by unfold xs0j.t2; repeat' first | exact sR | exact sN | exact sL | apply sC | (apply sB; intro _)) h
def xs0a.s4 (v0:Zd) (v1:Int) (v2:Int) (v3:Int) (v4:Int):List Cell:=⟨(.val .one),[.d .sha Yd v0],true,false,false,0,0⟩::vc (iL v1)::vc (iL v2)::vc (.fn 84 [])::nn 4 (vc (iL v3)::vc (iL v4)::nn 43 ([]))
def xs0a.q4:=fun v0 v1 v2 v3 v4 => loopAtL E (callT E tab) 149 Tryz.f149 4 [.r,.b,.o,.r,.l,.b,.r,.b] (xs0a.s4 v0 v1 v2 v3 v4)
def xs0a.l4:=fun v0 v1 v2 v3 v4 => tOf xs0a.mk (xs0a.q4 v0 v1 v2 v3 v4)
def xs0a.s1 (v0:Zd) (v1:Int) (v2:Int) (v3:Int):List Cell:=⟨(.val .one),[.d .sha Yd v0],true,false,false,0,0⟩::vc (iL v1)::vc (iL v2)::vc (.fn 84 [])::nn 4 (vc (iL v3)::nn 44 ([]))
def xs0a.q1:=fun v0 v1 v2 v3 => loopAtL E (callT E tab) 149 Tryz.f149 4 [.r,.b] (xs0a.s1 v0 v1 v2 v3)
def xs0a.l1:=fun v0 v1 v2 v3 => tOf xs0a.mk (xs0a.q1 v0 v1 v2 v3)
def xs0a.t {γ:Type} (ret:(Zd)→Option γ) (lp1:Zd→Int→Int→Int→Option γ) (v0:Zd) (v1:Int) (v2:Int):Option γ :=
 lp1 (v0) (v1) (v2) (IntKind.i64.wrap (v1+(1:Int)))
def xs0a.t4 {γ:Type} (ret:(Zd)→Option γ) (lp4:Zd→Int→Int→Int→Int→Option γ) (lp1:Zd→Int→Int→Int→Option γ) (v0:Zd) (v1:Int) (v2:Int) (v3:Int) (v4:Int):Option γ :=
 bif decide (v4 > v1) then
 bif decide ((0:Int)≤v4) then
 bif decide (v4.toNat<v0.length) then
 bif decide (v4.toNat<v0.length) then
 bif decide ((0:Int)≤IntKind.i64.wrap (v4 - (1:Int))) then
 bif decide ((IntKind.i64.wrap (v4 - (1:Int))).toNat<v0.length) then
 bif decide ((IntKind.i64.wrap (v4 - (1:Int))).toNat<v0.length) then
 (xi2r ((v0.getD v4.toNat ([],(0:Int))).fst) ((v0.getD v4.toNat ([],(0:Int))).snd) ((v0.getD (IntKind.i64.wrap (v4 - (1:Int))).toNat ([],(0:Int))).fst) ((v0.getD (IntKind.i64.wrap (v4 - (1:Int))).toNat ([],(0:Int))).snd)).bind fun (r0:Int) =>
 bif decide (r0<(0:Int)) then
 bif decide ((0:Int)≤IntKind.i64.wrap (v4 - (1:Int))) then
 bif decide ((IntKind.i64.wrap (v4 - (1:Int))).toNat<v0.length) then
 bif decide ((IntKind.i64.wrap (v4 - (1:Int))).toNat<v0.length) then
 bif decide ((0:Int)≤v4) then
 bif decide (v4.toNat<v0.length) then
 bif decide (v4.toNat<v0.length) then
 bif decide ((0:Int)≤v4) then
 bif decide (v4.toNat<v0.length) then
 bif decide (v4.toNat<v0.length) then
 bif decide ((0:Int)≤IntKind.i64.wrap (v4 - (1:Int))) then
 bif decide   ((IntKind.i64.wrap (v4 - (1:Int))).toNat<    (v0.set v4.toNat         ((v0.getD (IntKind.i64.wrap (v4 - (1:Int))).toNat ([],(0:Int))).fst,          (v0.getD (IntKind.i64.wrap (v4 - (1:Int))).toNat ([],(0:Int))).snd)).length) then
 bif decide   ((IntKind.i64.wrap (v4 - (1:Int))).toNat<    (v0.set v4.toNat         ((v0.getD (IntKind.i64.wrap (v4 - (1:Int))).toNat ([],(0:Int))).fst,          (v0.getD (IntKind.i64.wrap (v4 - (1:Int))).toNat ([],(0:Int))).snd)).length) then
 lp4 ((v0.set v4.toNat       ((v0.getD (IntKind.i64.wrap (v4 - (1:Int))).toNat ([],(0:Int))).fst,        (v0.getD (IntKind.i64.wrap (v4 - (1:Int))).toNat ([],(0:Int))).snd)).set   (IntKind.i64.wrap (v4 - (1:Int))).toNat   ((v0.getD v4.toNat ([],(0:Int))).fst,(v0.getD v4.toNat ([],(0:Int))).snd)) (v1) (v2) (v3) (IntKind.i64.wrap (v4 - (1:Int)))
 else
 none
 else
 none
 else
 none
 else
 none
 else
 none
 else
 none
 else
 none
 else
 none
 else
 none
 else
 none
 else
 none
 else
 none
 else
 lp1 (v0) (v1) (v2) (IntKind.i64.wrap (v3+(1:Int)))
 else
 none
 else
 none
 else
 none
 else
 none
 else
 none
 else
 none
 else
 lp1 (v0) (v1) (v2) (IntKind.i64.wrap (v3+(1:Int)))
def xs0a.t1 {γ:Type} (ret:(Zd)→Option γ) (lp4:Zd→Int→Int→Int→Int→Option γ) (v0:Zd) (v1:Int) (v2:Int) (v3:Int):Option γ :=
 bif decide (v3<v2) then
 lp4 (v0) (v1) (v2) (v3) (v3)
 else
 ret (v0)
theorem xs0a.u:∀ b,xs0a.un (xs0a.mk b)=b:=fun _ => by kernel_rfl
theorem xs0a.eq (v0 v1 v2) {b} (h:xs0a.t some xs0a.l1 v0 v1 v2=some b):xs0a v0 v1 v2=some b:=eqF xs0a.u Tryz.f149 (callT_le E tab) rfl rfl rfl (xs0a.t (rR xs0a.mk) xs0a.q1 v0 v1 v2) (by kernel_rfl) (by unfold xs0a.t; repeat' first | exact sR | exact sN | exact sL | apply sC | (apply sB; intro _)) h
theorem xs0a.eq4 (v0 v1 v2 v3 v4) {b} (h:xs0a.t4 some xs0a.l4 xs0a.l1 v0 v1 v2 v3 v4=some b):xs0a.l4 v0 v1 v2 v3 v4=some b:=eqL xs0a.u (xs0a.t4 (rR xs0a.mk) xs0a.q4 xs0a.q1 v0 v1 v2 v3 v4) (by kernel_rfl) (by unfold xs0a.t4; repeat' first | exact sR | exact sN | exact sL | apply sC | (apply sB; intro _)) h
theorem xs0a.eq1 (v0 v1 v2 v3) {b} (h:xs0a.t1 some xs0a.l4 v0 v1 v2 v3=some b):xs0a.l1 v0 v1 v2 v3=some b:=eqL xs0a.u (xs0a.t1 (rR xs0a.mk) xs0a.q4 v0 v1 v2 v3) (by kernel_rfl) (by unfold xs0a.t1; repeat' first | exact sR | exact sN | exact sL | apply sC | (apply sB; intro _)) h
def xi2r.t {γ:Type} (ret:(Int)→Option γ) (v0:List Int) (v1:Int) (v2:List Int) (v3:Int):Option γ :=
 (xi1v (v0) (v2)).bind fun (r0:Int) =>
 ret (r0)
theorem xi2r.u:∀ b,xi2r.un (xi2r.mk b)=b:=fun _ => by kernel_rfl
theorem xi2r.eq (v0 v1 v2 v3) {b} (h:xi2r.t some v0 v1 v2 v3=some b):xi2r v0 v1 v2 v3=some b:=eqF xi2r.u Tryz.f84 (callT_le E tab) rfl rfl rfl (xi2r.t (rR xi2r.mk) v0 v1 v2 v3) (by kernel_rfl) (by unfold xi2r.t; repeat' first | exact sR | exact sN | exact sL | apply sC | (apply sB; intro _)) h
def xs0h.s9 (v0:Zd) (v1:Int) (v2:Int):List Cell:=⟨(.val .one),[.d .sha Yd v0],true,false,false,0,0⟩::nn 9 (vc (iL v1)::nn 2 (vc (iL v2)::nn 206 ([])))
def xs0h.q9:=fun v0 v1 v2 => loopAtL E (callT E tab) 150 Tryz.f150 5 [.l,.r,.l,.r,.r,.r,.l,.r,.b] (xs0h.s9 v0 v1 v2)
def xs0h.l9:=fun v0 v1 v2 => tOf xs0h.mk (xs0h.q9 v0 v1 v2)
def xs0h.s3 (v0:Zd) (v1:Int) (v2:Int) (v3:Int):List Cell:=⟨(.val .one),[.d .sha Yd v0],true,false,false,0,0⟩::vc (iL v1)::nn 2 (vc (.fn 84 [])::nn 5 (vc (iL v2)::vc (iL v3)::nn 208 ([])))
def xs0h.q3:=fun v0 v1 v2 v3 => loopAtL E (callT E tab) 150 Tryz.f150 5 [.l,.r,.l,.r,.r,.l,.b] (xs0h.s3 v0 v1 v2 v3)
def xs0h.l3:=fun v0 v1 v2 v3 => tOf xs0h.mk (xs0h.q3 v0 v1 v2 v3)
def xs0h.s21 (v0:Zd) (v1:Int) (v2:Int):List Cell:=⟨(.val .one),[.d .sha Yd v0],true,false,false,0,0⟩::nn 13 (vc (iL v1)::nn 2 (vc (iL v2)::nn 202 ([])))
def xs0h.q21:=fun v0 v1 v2 => loopAtL E (callT E tab) 150 Tryz.f150 5 [.r,.l,.r,.l,.r,.r,.r,.l,.r,.b] (xs0h.s21 v0 v1 v2)
def xs0h.l21:=fun v0 v1 v2 => tOf xs0h.mk (xs0h.q21 v0 v1 v2)
def xs0h.s15 (v0:Zd) (v1:Int) (v2:Int) (v3:Int):List Cell:=⟨(.val .one),[.d .sha Yd v0],true,false,false,0,0⟩::nn 1 (vc (iL v1)::nn 1 (vc (.fn 84 [])::nn 9 (vc (iL v2)::vc (iL v3)::nn 204 ([]))))
def xs0h.q15:=fun v0 v1 v2 v3 => loopAtL E (callT E tab) 150 Tryz.f150 5 [.r,.l,.r,.l,.r,.r,.l,.b] (xs0h.s15 v0 v1 v2 v3)
def xs0h.l15:=fun v0 v1 v2 v3 => tOf xs0h.mk (xs0h.q15 v0 v1 v2 v3)
def xs0h.s33 (v0:Zd) (v1:Int) (v2:Int) (v3:Int) (v4:Int) (v5:Int) (v6:Int) (v7:Int) (v8:Int):List Cell:=⟨(.val .one),[.d .sha Yd v0],true,false,false,0,0⟩::vc (iL v1)::vc (iL v2)::vc (iL v3)::vc (.fn 84 [])::nn 13 (vc (iL v4)::vc (iL v5)::vc (iL v6)::vc (iL v7)::vc (iL v8)::nn 197 ([]))
def xs0h.q33:=fun v0 v1 v2 v3 v4 v5 v6 v7 v8 => loopAtL E (callT E tab) 150 Tryz.f150 5 [.r,.r,.r,.r,.r,.r,.r,.l,.b] (xs0h.s33 v0 v1 v2 v3 v4 v5 v6 v7 v8)
def xs0h.l33:=fun v0 v1 v2 v3 v4 v5 v6 v7 v8 => tOf xs0h.mk (xs0h.q33 v0 v1 v2 v3 v4 v5 v6 v7 v8)
def xs0h.t {γ:Type} (ret:(Zd)→Option γ) (lp3:Zd→Int→Int→Int→Option γ) (lp15:Zd→Int→Int→Int→Option γ) (lp33:Zd→Int→Int→Int→Int→Int→Int→Int→Int→Option γ) (v0:Zd) (v1:Int) (v2:Int) (v3:Int):Option γ :=
 bif IntKind.i64.wrap (v2 - v1) == (1:Int) then
 lp3 (v0) (v1) (v2) (v3)
 else
 bif IntKind.i64.wrap (v3 - v2) == (1:Int) then
 lp15 (v0) (v2) (v1) (v2)
 else
 bif decide   (v2 >     IntKind.i64.wrap       ((IntKind.u64.wrap (IntKind.i64.wrap (v1+v3))).fdiv         ((2:Int) ^ Min.min (Int.toNat (1:Int)) IntKind.u64.bits))) then
 lp33 (v0) (v1) (v2) (v3) (IntKind.i64.wrap   ((IntKind.u64.wrap (IntKind.i64.wrap (v1+v3))).fdiv     ((2:Int) ^ Min.min (Int.toNat (1:Int)) IntKind.u64.bits))) (IntKind.i64.wrap   (IntKind.i64.wrap       ((IntKind.u64.wrap (IntKind.i64.wrap (v1+v3))).fdiv         ((2:Int) ^ Min.min (Int.toNat (1:Int)) IntKind.u64.bits))+    v2)) (IntKind.i64.wrap   (IntKind.i64.wrap       (IntKind.i64.wrap           ((IntKind.u64.wrap (IntKind.i64.wrap (v1+v3))).fdiv             ((2:Int) ^ Min.min (Int.toNat (1:Int)) IntKind.u64.bits))+        v2) -     v3)) (IntKind.i64.wrap   ((IntKind.u64.wrap (IntKind.i64.wrap (v1+v3))).fdiv     ((2:Int) ^ Min.min (Int.toNat (1:Int)) IntKind.u64.bits))) (IntKind.i64.wrap   (IntKind.i64.wrap       (IntKind.i64.wrap           ((IntKind.u64.wrap (IntKind.i64.wrap (v1+v3))).fdiv             ((2:Int) ^ Min.min (Int.toNat (1:Int)) IntKind.u64.bits))+        v2) -     (1:Int)))
 else
 lp33 (v0) (v1) (v2) (v3) (IntKind.i64.wrap   ((IntKind.u64.wrap (IntKind.i64.wrap (v1+v3))).fdiv     ((2:Int) ^ Min.min (Int.toNat (1:Int)) IntKind.u64.bits))) (IntKind.i64.wrap   (IntKind.i64.wrap       ((IntKind.u64.wrap (IntKind.i64.wrap (v1+v3))).fdiv         ((2:Int) ^ Min.min (Int.toNat (1:Int)) IntKind.u64.bits))+    v2)) (v1) (v2) (IntKind.i64.wrap   (IntKind.i64.wrap       (IntKind.i64.wrap           ((IntKind.u64.wrap (IntKind.i64.wrap (v1+v3))).fdiv             ((2:Int) ^ Min.min (Int.toNat (1:Int)) IntKind.u64.bits))+        v2) -     (1:Int)))
def xs0h.t9 {γ:Type} (ret:(Zd)→Option γ) (lp9:Zd→Int→Int→Option γ) (v0:Zd) (v1:Int) (v2:Int):Option γ :=
 bif decide (v2<IntKind.i64.wrap (v1 - (1:Int))) then
 bif decide ((0:Int)≤IntKind.i64.wrap (v2+(1:Int))) then
 bif decide ((IntKind.i64.wrap (v2+(1:Int))).toNat<v0.length) then
 bif decide ((IntKind.i64.wrap (v2+(1:Int))).toNat<v0.length) then
 bif decide ((0:Int)≤v2) then
 bif decide (v2.toNat<v0.length) then
 bif decide (v2.toNat<v0.length) then
 bif decide ((0:Int)≤v2) then
 bif decide (v2.toNat<v0.length) then
 bif decide (v2.toNat<v0.length) then
 bif decide ((0:Int)≤IntKind.i64.wrap (v2+(1:Int))) then
 bif decide   ((IntKind.i64.wrap (v2+(1:Int))).toNat<    (v0.set v2.toNat         ((v0.getD (IntKind.i64.wrap (v2+(1:Int))).toNat ([],(0:Int))).fst,          (v0.getD (IntKind.i64.wrap (v2+(1:Int))).toNat ([],(0:Int))).snd)).length) then
 bif decide   ((IntKind.i64.wrap (v2+(1:Int))).toNat<    (v0.set v2.toNat         ((v0.getD (IntKind.i64.wrap (v2+(1:Int))).toNat ([],(0:Int))).fst,          (v0.getD (IntKind.i64.wrap (v2+(1:Int))).toNat ([],(0:Int))).snd)).length) then
 lp9 ((v0.set v2.toNat       ((v0.getD (IntKind.i64.wrap (v2+(1:Int))).toNat ([],(0:Int))).fst,        (v0.getD (IntKind.i64.wrap (v2+(1:Int))).toNat ([],(0:Int))).snd)).set   (IntKind.i64.wrap (v2+(1:Int))).toNat   ((v0.getD v2.toNat ([],(0:Int))).fst,(v0.getD v2.toNat ([],(0:Int))).snd)) (v1) (IntKind.i64.wrap (v2+(1:Int)))
 else
 none
 else
 none
 else
 none
 else
 none
 else
 none
 else
 none
 else
 none
 else
 none
 else
 none
 else
 none
 else
 none
 else
 none
 else
 ret (v0)
def xs0h.t3 {γ:Type} (ret:(Zd)→Option γ) (lp9:Zd→Int→Int→Option γ) (lp3:Zd→Int→Int→Int→Option γ) (v0:Zd) (v1:Int) (v2:Int) (v3:Int):Option γ :=
 bif decide (v2<v3) then
 bif decide   ((0:Int)≤    IntKind.i64.wrap       ((IntKind.u64.wrap (IntKind.i64.wrap (v2+v3))).fdiv         ((2:Int) ^ Min.min (Int.toNat (1:Int)) IntKind.u64.bits))) then
 bif decide   ((IntKind.i64.wrap         ((IntKind.u64.wrap (IntKind.i64.wrap (v2+v3))).fdiv           ((2:Int) ^ Min.min (Int.toNat (1:Int)) IntKind.u64.bits))).toNat<    v0.length) then
 bif decide   ((IntKind.i64.wrap         ((IntKind.u64.wrap (IntKind.i64.wrap (v2+v3))).fdiv           ((2:Int) ^ Min.min (Int.toNat (1:Int)) IntKind.u64.bits))).toNat<    v0.length) then
 bif decide ((0:Int)≤v1) then
 bif decide (v1.toNat<v0.length) then
 bif decide (v1.toNat<v0.length) then
 (xi2r ((v0.getD     (IntKind.i64.wrap         ((IntKind.u64.wrap (IntKind.i64.wrap (v2+v3))).fdiv           ((2:Int) ^ Min.min (Int.toNat (1:Int)) IntKind.u64.bits))).toNat     ([],(0:Int))).fst) ((v0.getD     (IntKind.i64.wrap         ((IntKind.u64.wrap (IntKind.i64.wrap (v2+v3))).fdiv           ((2:Int) ^ Min.min (Int.toNat (1:Int)) IntKind.u64.bits))).toNat     ([],(0:Int))).snd) ((v0.getD v1.toNat ([],(0:Int))).fst) ((v0.getD v1.toNat ([],(0:Int))).snd)).bind fun (r0:Int) =>
 bif decide (r0<(0:Int)) then
 lp3 (v0) (v1) (IntKind.i64.wrap   (IntKind.i64.wrap       ((IntKind.u64.wrap (IntKind.i64.wrap (v2+v3))).fdiv         ((2:Int) ^ Min.min (Int.toNat (1:Int)) IntKind.u64.bits))+    (1:Int))) (v3)
 else
 lp3 (v0) (v1) (v2) (IntKind.i64.wrap   ((IntKind.u64.wrap (IntKind.i64.wrap (v2+v3))).fdiv     ((2:Int) ^ Min.min (Int.toNat (1:Int)) IntKind.u64.bits)))
 else
 none
 else
 none
 else
 none
 else
 none
 else
 none
 else
 none
 else
 lp9 (v0) (v2) (v1)
def xs0h.t21 {γ:Type} (ret:(Zd)→Option γ) (lp21:Zd→Int→Int→Option γ) (v0:Zd) (v1:Int) (v2:Int):Option γ :=
 bif decide (v2 > v1) then
 bif decide ((0:Int)≤IntKind.i64.wrap (v2 - (1:Int))) then
 bif decide ((IntKind.i64.wrap (v2 - (1:Int))).toNat<v0.length) then
 bif decide ((IntKind.i64.wrap (v2 - (1:Int))).toNat<v0.length) then
 bif decide ((0:Int)≤v2) then
 bif decide (v2.toNat<v0.length) then
 bif decide (v2.toNat<v0.length) then
 bif decide ((0:Int)≤v2) then
 bif decide (v2.toNat<v0.length) then
 bif decide (v2.toNat<v0.length) then
 bif decide ((0:Int)≤IntKind.i64.wrap (v2 - (1:Int))) then
 bif decide   ((IntKind.i64.wrap (v2 - (1:Int))).toNat<    (v0.set v2.toNat         ((v0.getD (IntKind.i64.wrap (v2 - (1:Int))).toNat ([],(0:Int))).fst,          (v0.getD (IntKind.i64.wrap (v2 - (1:Int))).toNat ([],(0:Int))).snd)).length) then
 bif decide   ((IntKind.i64.wrap (v2 - (1:Int))).toNat<    (v0.set v2.toNat         ((v0.getD (IntKind.i64.wrap (v2 - (1:Int))).toNat ([],(0:Int))).fst,          (v0.getD (IntKind.i64.wrap (v2 - (1:Int))).toNat ([],(0:Int))).snd)).length) then
 lp21 ((v0.set v2.toNat       ((v0.getD (IntKind.i64.wrap (v2 - (1:Int))).toNat ([],(0:Int))).fst,        (v0.getD (IntKind.i64.wrap (v2 - (1:Int))).toNat ([],(0:Int))).snd)).set   (IntKind.i64.wrap (v2 - (1:Int))).toNat   ((v0.getD v2.toNat ([],(0:Int))).fst,(v0.getD v2.toNat ([],(0:Int))).snd)) (v1) (IntKind.i64.wrap (v2 - (1:Int)))
 else
 none
 else
 none
 else
 none
 else
 none
 else
 none
 else
 none
 else
 none
 else
 none
 else
 none
 else
 none
 else
 none
 else
 none
 else
 ret (v0)
def xs0h.t15 {γ:Type} (ret:(Zd)→Option γ) (lp21:Zd→Int→Int→Option γ) (lp15:Zd→Int→Int→Int→Option γ) (v0:Zd) (v1:Int) (v2:Int) (v3:Int):Option γ :=
 bif decide (v2<v3) then
 bif decide ((0:Int)≤v1) then
 bif decide (v1.toNat<v0.length) then
 bif decide (v1.toNat<v0.length) then
 bif decide   ((0:Int)≤    IntKind.i64.wrap       ((IntKind.u64.wrap (IntKind.i64.wrap (v2+v3))).fdiv         ((2:Int) ^ Min.min (Int.toNat (1:Int)) IntKind.u64.bits))) then
 bif decide   ((IntKind.i64.wrap         ((IntKind.u64.wrap (IntKind.i64.wrap (v2+v3))).fdiv           ((2:Int) ^ Min.min (Int.toNat (1:Int)) IntKind.u64.bits))).toNat<    v0.length) then
 bif decide   ((IntKind.i64.wrap         ((IntKind.u64.wrap (IntKind.i64.wrap (v2+v3))).fdiv           ((2:Int) ^ Min.min (Int.toNat (1:Int)) IntKind.u64.bits))).toNat<    v0.length) then
 (xi2r ((v0.getD v1.toNat ([],(0:Int))).fst) ((v0.getD v1.toNat ([],(0:Int))).snd) ((v0.getD     (IntKind.i64.wrap         ((IntKind.u64.wrap (IntKind.i64.wrap (v2+v3))).fdiv           ((2:Int) ^ Min.min (Int.toNat (1:Int)) IntKind.u64.bits))).toNat     ([],(0:Int))).fst) ((v0.getD     (IntKind.i64.wrap         ((IntKind.u64.wrap (IntKind.i64.wrap (v2+v3))).fdiv           ((2:Int) ^ Min.min (Int.toNat (1:Int)) IntKind.u64.bits))).toNat     ([],(0:Int))).snd)).bind fun (r1:Int) =>
 bif !decide (r1<(0:Int)) then
 lp15 (v0) (v1) (IntKind.i64.wrap   (IntKind.i64.wrap       ((IntKind.u64.wrap (IntKind.i64.wrap (v2+v3))).fdiv         ((2:Int) ^ Min.min (Int.toNat (1:Int)) IntKind.u64.bits))+    (1:Int))) (v3)
 else
 lp15 (v0) (v1) (v2) (IntKind.i64.wrap   ((IntKind.u64.wrap (IntKind.i64.wrap (v2+v3))).fdiv     ((2:Int) ^ Min.min (Int.toNat (1:Int)) IntKind.u64.bits)))
 else
 none
 else
 none
 else
 none
 else
 none
 else
 none
 else
 none
 else
 lp21 (v0) (v2) (v1)
def xs0h.t33 {γ:Type} (ret:(Zd)→Option γ) (lp33:Zd→Int→Int→Int→Int→Int→Int→Int→Int→Option γ) (v0:Zd) (v1:Int) (v2:Int) (v3:Int) (v4:Int) (v5:Int) (v6:Int) (v7:Int) (v8:Int):Option γ :=
 bif decide (v6<v7) then
 bif decide   ((0:Int)≤    IntKind.i64.wrap       (v8 -         IntKind.i64.wrap           ((IntKind.u64.wrap (IntKind.i64.wrap (v6+v7))).fdiv             ((2:Int) ^ Min.min (Int.toNat (1:Int)) IntKind.u64.bits)))) then
 bif decide   ((IntKind.i64.wrap         (v8 -           IntKind.i64.wrap             ((IntKind.u64.wrap (IntKind.i64.wrap (v6+v7))).fdiv               ((2:Int) ^ Min.min (Int.toNat (1:Int)) IntKind.u64.bits)))).toNat<    v0.length) then
 bif decide   ((IntKind.i64.wrap         (v8 -           IntKind.i64.wrap             ((IntKind.u64.wrap (IntKind.i64.wrap (v6+v7))).fdiv               ((2:Int) ^ Min.min (Int.toNat (1:Int)) IntKind.u64.bits)))).toNat<    v0.length) then
 bif decide   ((0:Int)≤    IntKind.i64.wrap       ((IntKind.u64.wrap (IntKind.i64.wrap (v6+v7))).fdiv         ((2:Int) ^ Min.min (Int.toNat (1:Int)) IntKind.u64.bits))) then
 bif decide   ((IntKind.i64.wrap         ((IntKind.u64.wrap (IntKind.i64.wrap (v6+v7))).fdiv           ((2:Int) ^ Min.min (Int.toNat (1:Int)) IntKind.u64.bits))).toNat<    v0.length) then
 bif decide   ((IntKind.i64.wrap         ((IntKind.u64.wrap (IntKind.i64.wrap (v6+v7))).fdiv           ((2:Int) ^ Min.min (Int.toNat (1:Int)) IntKind.u64.bits))).toNat<    v0.length) then
 (xi2r ((v0.getD     (IntKind.i64.wrap         (v8 -           IntKind.i64.wrap             ((IntKind.u64.wrap (IntKind.i64.wrap (v6+v7))).fdiv               ((2:Int) ^ Min.min (Int.toNat (1:Int)) IntKind.u64.bits)))).toNat     ([],(0:Int))).fst) ((v0.getD     (IntKind.i64.wrap         (v8 -           IntKind.i64.wrap             ((IntKind.u64.wrap (IntKind.i64.wrap (v6+v7))).fdiv               ((2:Int) ^ Min.min (Int.toNat (1:Int)) IntKind.u64.bits)))).toNat     ([],(0:Int))).snd) ((v0.getD     (IntKind.i64.wrap         ((IntKind.u64.wrap (IntKind.i64.wrap (v6+v7))).fdiv           ((2:Int) ^ Min.min (Int.toNat (1:Int)) IntKind.u64.bits))).toNat     ([],(0:Int))).fst) ((v0.getD     (IntKind.i64.wrap         ((IntKind.u64.wrap (IntKind.i64.wrap (v6+v7))).fdiv           ((2:Int) ^ Min.min (Int.toNat (1:Int)) IntKind.u64.bits))).toNat     ([],(0:Int))).snd)).bind fun (r2:Int) =>
 bif !decide (r2<(0:Int)) then
 lp33 (v0) (v1) (v2) (v3) (v4) (v5) (IntKind.i64.wrap   (IntKind.i64.wrap       ((IntKind.u64.wrap (IntKind.i64.wrap (v6+v7))).fdiv         ((2:Int) ^ Min.min (Int.toNat (1:Int)) IntKind.u64.bits))+    (1:Int))) (v7) (v8)
 else
 lp33 (v0) (v1) (v2) (v3) (v4) (v5) (v6) (IntKind.i64.wrap   ((IntKind.u64.wrap (IntKind.i64.wrap (v6+v7))).fdiv     ((2:Int) ^ Min.min (Int.toNat (1:Int)) IntKind.u64.bits))) (v8)
 else
 none
 else
 none
 else
 none
 else
 none
 else
 none
 else
 none
 else
 bif decide (v6<v2) then
 bif decide (v2<IntKind.i64.wrap (v5 - v6)) then
 (xs0i (v0) (v6) (v2) (IntKind.i64.wrap (v5 - v6))).bind fun (r3:Zd) =>
 bif decide (v1<v6) then
 bif decide (v6<v4) then
 (xs0h (r3) (v1) (v6) (v4)).bind fun (r4:Zd) =>
 bif decide (v4<IntKind.i64.wrap (v5 - v6)) then
 bif decide (IntKind.i64.wrap (v5 - v6)<v3) then
 (xs0h (r4) (v4) (IntKind.i64.wrap (v5 - v6)) (v3)).bind fun (r5:Zd) =>
 ret (r5)
 else
 ret (r4)
 else
 ret (r4)
 else
 bif decide (v4<IntKind.i64.wrap (v5 - v6)) then
 bif decide (IntKind.i64.wrap (v5 - v6)<v3) then
 (xs0h (r3) (v4) (IntKind.i64.wrap (v5 - v6)) (v3)).bind fun (r6:Zd) =>
 ret (r6)
 else
 ret (r3)
 else
 ret (r3)
 else
 bif decide (v4<IntKind.i64.wrap (v5 - v6)) then
 bif decide (IntKind.i64.wrap (v5 - v6)<v3) then
 (xs0h (r3) (v4) (IntKind.i64.wrap (v5 - v6)) (v3)).bind fun (r7:Zd) =>
 ret (r7)
 else
 ret (r3)
 else
 ret (r3)
 else
 bif decide (v1<v6) then
 bif decide (v6<v4) then
 (xs0h (v0) (v1) (v6) (v4)).bind fun (r8:Zd) =>
 bif decide (v4<IntKind.i64.wrap (v5 - v6)) then
 bif decide (IntKind.i64.wrap (v5 - v6)<v3) then
 (xs0h (r8) (v4) (IntKind.i64.wrap (v5 - v6)) (v3)).bind fun (r9:Zd) =>
 ret (r9)
 else
 ret (r8)
 else
 ret (r8)
 else
 bif decide (v4<IntKind.i64.wrap (v5 - v6)) then
 bif decide (IntKind.i64.wrap (v5 - v6)<v3) then
 (xs0h (v0) (v4) (IntKind.i64.wrap (v5 - v6)) (v3)).bind fun (r10:Zd) =>
 ret (r10)
 else
 ret (v0)
 else
 ret (v0)
 else
 bif decide (v4<IntKind.i64.wrap (v5 - v6)) then
 bif decide (IntKind.i64.wrap (v5 - v6)<v3) then
 (xs0h (v0) (v4) (IntKind.i64.wrap (v5 - v6)) (v3)).bind fun (r11:Zd) =>
 ret (r11)
 else
 ret (v0)
 else
 ret (v0)
 else
 bif decide (v1<v6) then
 bif decide (v6<v4) then
 (xs0h (v0) (v1) (v6) (v4)).bind fun (r12:Zd) =>
 bif decide (v4<IntKind.i64.wrap (v5 - v6)) then
 bif decide (IntKind.i64.wrap (v5 - v6)<v3) then
 (xs0h (r12) (v4) (IntKind.i64.wrap (v5 - v6)) (v3)).bind fun (r13:Zd) =>
 ret (r13)
 else
 ret (r12)
 else
 ret (r12)
 else
 bif decide (v4<IntKind.i64.wrap (v5 - v6)) then
 bif decide (IntKind.i64.wrap (v5 - v6)<v3) then
 (xs0h (v0) (v4) (IntKind.i64.wrap (v5 - v6)) (v3)).bind fun (r14:Zd) =>
 ret (r14)
 else
 ret (v0)
 else
 ret (v0)
 else
 bif decide (v4<IntKind.i64.wrap (v5 - v6)) then
 bif decide (IntKind.i64.wrap (v5 - v6)<v3) then
 (xs0h (v0) (v4) (IntKind.i64.wrap (v5 - v6)) (v3)).bind fun (r15:Zd) =>
 ret (r15)
 else
 ret (v0)
 else
 ret (v0)
theorem xs0h.u:∀ b,xs0h.un (xs0h.mk b)=b:=fun _ => by kernel_rfl
theorem xs0h.eq (v0 v1 v2 v3) {b} (h:xs0h.t some xs0h.l3 xs0h.l15 xs0h.l33 v0 v1 v2 v3=some b):xs0h v0 v1 v2 v3=some b:=eqF xs0h.u Tryz.f150 (callT_le E tab) rfl rfl rfl (xs0h.t (rR xs0h.mk) xs0h.q3 xs0h.q15 xs0h.q33 v0 v1 v2 v3) (by kernel_rfl) (by unfold xs0h.t; repeat' first | exact sR | exact sN | exact sL | apply sC | (apply sB; intro _)) h
theorem xs0h.eq9 (v0 v1 v2) {b} (h:xs0h.t9 some xs0h.l9 v0 v1 v2=some b):xs0h.l9 v0 v1 v2=some b:=eqL xs0h.u (xs0h.t9 (rR xs0h.mk) xs0h.q9 v0 v1 v2) (by kernel_rfl) (by unfold xs0h.t9; repeat' first | exact sR | exact sN | exact sL | apply sC | (apply sB; intro _)) h
theorem xs0h.eq3 (v0 v1 v2 v3) {b} (h:xs0h.t3 some xs0h.l9 xs0h.l3 v0 v1 v2 v3=some b):xs0h.l3 v0 v1 v2 v3=some b:=eqL xs0h.u (xs0h.t3 (rR xs0h.mk) xs0h.q9 xs0h.q3 v0 v1 v2 v3) (by kernel_rfl) (by unfold xs0h.t3; repeat' first | exact sR | exact sN | exact sL | apply sC | (apply sB; intro _)) h
theorem xs0h.eq21 (v0 v1 v2) {b} (h:xs0h.t21 some xs0h.l21 v0 v1 v2=some b):xs0h.l21 v0 v1 v2=some b:=eqL xs0h.u (xs0h.t21 (rR xs0h.mk) xs0h.q21 v0 v1 v2) (by kernel_rfl) (by unfold xs0h.t21; repeat' first | exact sR | exact sN | exact sL | apply sC | (apply sB; intro _)) h
theorem xs0h.eq15 (v0 v1 v2 v3) {b} (h:xs0h.t15 some xs0h.l21 xs0h.l15 v0 v1 v2 v3=some b):xs0h.l15 v0 v1 v2 v3=some b:=eqL xs0h.u (xs0h.t15 (rR xs0h.mk) xs0h.q21 xs0h.q15 v0 v1 v2 v3) (by kernel_rfl) (by unfold xs0h.t15; repeat' first | exact sR | exact sN | exact sL | apply sC | (apply sB; intro _)) h
theorem xs0h.eq33 (v0 v1 v2 v3 v4 v5 v6 v7 v8) {b} (h:xs0h.t33 some xs0h.l33 v0 v1 v2 v3 v4 v5 v6 v7 v8=some b):xs0h.l33 v0 v1 v2 v3 v4 v5 v6 v7 v8=some b:=eqL xs0h.u (xs0h.t33 (rR xs0h.mk) xs0h.q33 v0 v1 v2 v3 v4 v5 v6 v7 v8) (by kernel_rfl) (by unfold xs0h.t33; repeat' first | exact sR | exact sN | exact sL | apply sC | (apply sB; intro _)) h
def xs0i.s2 (v0:Zd) (v1:Int) (v2:Int) (v3:Int):List Cell:=⟨(.val .one),[.d .sha Yd v0],true,false,false,0,0⟩::nn 1 (vc (iL v1)::nn 1 (vc (.fn 84 [])::nn 5 (vc (iL v2)::vc (iL v3)::nn 46 ([]))))
def xs0i.q2:=fun v0 v1 v2 v3 => loopAtL E (callT E tab) 162 Tryz.f162 5 [.r,.r,.l,.b] (xs0i.s2 v0 v1 v2 v3)
def xs0i.l2:=fun v0 v1 v2 v3 => tOf xs0i.mk (xs0i.q2 v0 v1 v2 v3)
def xs0i.t {γ:Type} (ret:(Zd)→Option γ) (lp2:Zd→Int→Int→Int→Option γ) (v0:Zd) (v1:Int) (v2:Int) (v3:Int):Option γ :=
 lp2 (v0) (v2) (IntKind.i64.wrap (v2 - v1)) (IntKind.i64.wrap (v3 - v2))
def xs0i.t2 {γ:Type} (ret:(Zd)→Option γ) (lp2:Zd→Int→Int→Int→Option γ) (v0:Zd) (v1:Int) (v2:Int) (v3:Int):Option γ :=
 bif v2 != v3 then
 bif decide (v2 > v3) then
 (xs0f (v0) (IntKind.i64.wrap (v1 - v2)) (v1) (v3)).bind fun (r0:Zd) =>
 lp2 (r0) (v1) (IntKind.i64.wrap (v2 - v3)) (v3)
 else
 (xs0f (v0) (IntKind.i64.wrap (v1 - v2)) (IntKind.i64.wrap (IntKind.i64.wrap (v1+v3) - v2)) (v2)).bind fun (r1:Zd) =>
 lp2 (r1) (v1) (v2) (IntKind.i64.wrap (v3 - v2))
 else
 (xs0f (v0) (IntKind.i64.wrap (v1 - v2)) (v1) (v2)).bind fun (r2:Zd) =>
 ret (r2)
theorem xs0i.u:∀ b,xs0i.un (xs0i.mk b)=b:=fun _ => by kernel_rfl
theorem xs0i.eq (v0 v1 v2 v3) {b} (h:xs0i.t some xs0i.l2 v0 v1 v2 v3=some b):xs0i v0 v1 v2 v3=some b:=eqF xs0i.u Tryz.f162 (callT_le E tab) rfl rfl rfl (xs0i.t (rR xs0i.mk) xs0i.q2 v0 v1 v2 v3) (by kernel_rfl) (by unfold xs0i.t; repeat' first | exact sR | exact sN | exact sL | apply sC | (apply sB; intro _)) h
theorem xs0i.eq2 (v0 v1 v2 v3) {b} (h:xs0i.t2 some xs0i.l2 v0 v1 v2 v3=some b):xs0i.l2 v0 v1 v2 v3=some b:=eqL xs0i.u (xs0i.t2 (rR xs0i.mk) xs0i.q2 v0 v1 v2 v3) (by kernel_rfl) (by unfold xs0i.t2; repeat' first | exact sR | exact sN | exact sL | apply sC | (apply sB; intro _)) h
def xs0f.s1 (v0:Zd) (v1:Int) (v2:Int) (v3:Int) (v4:Int):List Cell:=⟨(.val .one),[.d .sha Yd v0],true,false,false,0,0⟩::vc (iL v1)::vc (iL v2)::vc (iL v3)::nn 6 (vc (iL v4)::nn 27 ([]))
def xs0f.q1:=fun v0 v1 v2 v3 v4 => loopAtL E (callT E tab) 165 Tryz.f165 5 [.r,.b] (xs0f.s1 v0 v1 v2 v3 v4)
def xs0f.l1:=fun v0 v1 v2 v3 v4 => tOf xs0f.mk (xs0f.q1 v0 v1 v2 v3 v4)
def xs0f.t {γ:Type} (ret:(Zd)→Option γ) (lp1:Zd→Int→Int→Int→Int→Option γ) (v0:Zd) (v1:Int) (v2:Int) (v3:Int):Option γ :=
 lp1 (v0) (v1) (v2) (v3) ((0:Int))
def xs0f.t1 {γ:Type} (ret:(Zd)→Option γ) (lp1:Zd→Int→Int→Int→Int→Option γ) (v0:Zd) (v1:Int) (v2:Int) (v3:Int) (v4:Int):Option γ :=
 bif decide (v4<v3) then
 bif decide ((0:Int)≤IntKind.i64.wrap (v2+v4)) then
 bif decide ((IntKind.i64.wrap (v2+v4)).toNat<v0.length) then
 bif decide ((IntKind.i64.wrap (v2+v4)).toNat<v0.length) then
 bif decide ((0:Int)≤IntKind.i64.wrap (v1+v4)) then
 bif decide ((IntKind.i64.wrap (v1+v4)).toNat<v0.length) then
 bif decide ((IntKind.i64.wrap (v1+v4)).toNat<v0.length) then
 bif decide ((0:Int)≤IntKind.i64.wrap (v1+v4)) then
 bif decide ((IntKind.i64.wrap (v1+v4)).toNat<v0.length) then
 bif decide ((IntKind.i64.wrap (v1+v4)).toNat<v0.length) then
 bif decide ((0:Int)≤IntKind.i64.wrap (v2+v4)) then
 bif decide   ((IntKind.i64.wrap (v2+v4)).toNat<    (v0.set (IntKind.i64.wrap (v1+v4)).toNat         ((v0.getD (IntKind.i64.wrap (v2+v4)).toNat ([],(0:Int))).fst,          (v0.getD (IntKind.i64.wrap (v2+v4)).toNat ([],(0:Int))).snd)).length) then
 bif decide   ((IntKind.i64.wrap (v2+v4)).toNat<    (v0.set (IntKind.i64.wrap (v1+v4)).toNat         ((v0.getD (IntKind.i64.wrap (v2+v4)).toNat ([],(0:Int))).fst,          (v0.getD (IntKind.i64.wrap (v2+v4)).toNat ([],(0:Int))).snd)).length) then
 lp1 ((v0.set (IntKind.i64.wrap (v1+v4)).toNat       ((v0.getD (IntKind.i64.wrap (v2+v4)).toNat ([],(0:Int))).fst,        (v0.getD (IntKind.i64.wrap (v2+v4)).toNat ([],(0:Int))).snd)).set   (IntKind.i64.wrap (v2+v4)).toNat   ((v0.getD (IntKind.i64.wrap (v1+v4)).toNat ([],(0:Int))).fst,    (v0.getD (IntKind.i64.wrap (v1+v4)).toNat ([],(0:Int))).snd)) (v1) (v2) (v3) (IntKind.i64.wrap (v4+(1:Int)))
 else
 none
 else
 none
 else
 none
 else
 none
 else
 none
 else
 none
 else
 none
 else
 none
 else
 none
 else
 none
 else
 none
 else
 none
 else
 ret (v0)
theorem xs0f.u:∀ b,xs0f.un (xs0f.mk b)=b:=fun _ => by kernel_rfl
theorem xs0f.eq (v0 v1 v2 v3) {b} (h:xs0f.t some xs0f.l1 v0 v1 v2 v3=some b):xs0f v0 v1 v2 v3=some b:=eqF xs0f.u Tryz.f165 (callT_le E tab) rfl rfl rfl (xs0f.t (rR xs0f.mk) xs0f.q1 v0 v1 v2 v3) (by kernel_rfl) (by unfold xs0f.t; repeat' first | exact sR | exact sN | exact sL | apply sC | (apply sB; intro _)) h
theorem xs0f.eq1 (v0 v1 v2 v3 v4) {b} (h:xs0f.t1 some xs0f.l1 v0 v1 v2 v3 v4=some b):xs0f.l1 v0 v1 v2 v3 v4=some b:=eqL xs0f.u (xs0f.t1 (rR xs0f.mk) xs0f.q1 v0 v1 v2 v3 v4) (by kernel_rfl) (by unfold xs0f.t1; repeat' first | exact sR | exact sN | exact sL | apply sC | (apply sB; intro _)) h
def xi33.t {γ:Type} (ret:((List Int))→Option γ) (v0:List Int):Option γ :=
 (xs1c (v0)).bind fun (r0:(List Int)) =>
 ret (r0)
theorem xi33.u:∀ b,xi33.un (xi33.mk b)=b:=fun _ => by kernel_rfl
theorem xi33.eq (v0) {b} (h:xi33.t some v0=some b):xi33 v0=some b:=eqF xi33.u Tryz.f85 (callT_le E tab) rfl rfl rfl (xi33.t (rR xi33.mk) v0) (by kernel_rfl) (by unfold xi33.t; repeat' first | exact sR | exact sN | exact sL | apply sC | (apply sB; intro _)) h
end
end GoV

/- Equations of the program's functions (printed by wip/tools/emit.py). -/
namespace GoV
open Go Go.Proofs
set_option maxRecDepth 100000
noncomputable section

def xs1c.t {γ:Type} (ret:((List Int))→Option γ) (v0:List Int):Option γ :=
 bif decide (v0.length≤(4294967296:Nat)) then
 ret (v0)
 else
 none
theorem xs1c.k (v0:List Int):extOf 125 (xs1c.c v0)=xs1c.t (fun b => some (xs1c.mk b)) v0:=by kernel_rfl
theorem xs1c.eq (v0:List Int) {b:(List Int)} (h:xs1c.t some v0=some b):xs1c v0=some b:=tOf_intro xs1c.un (fun _ => by kernel_rfl) (vlim_ext (g:=extOf 125) rfl ((xs1c.k v0).trans ((by unfold xs1c.t; repeat' first | exact Sub.ret | exact Sub.none | exact Sub.loop | apply Sub.cond | (apply Sub.bind; intro _):Sub xs1c.mk _ _) b h)))
def xi1d.t {γ:Type} (ret:(Int × Zd)→Option γ) (v0:Int) (v1:Zd):Option γ :=
 (xi0s (v0) (v1)).bind fun (r0:Int × Zd) =>
 ret (r0.fst,r0.snd)
theorem xi1d.u:∀ b,xi1d.un (xi1d.mk b)=b:=fun _ => by kernel_rfl
theorem xi1d.eq (v0 v1) {b} (h:xi1d.t some v0 v1=some b):xi1d v0 v1=some b:=eqF xi1d.u Tryz.f66 (callT_le E tab) rfl rfl rfl (xi1d.t (rR xi1d.mk) v0 v1) (by kernel_rfl) (by unfold xi1d.t; repeat' first | exact sR | exact sN | exact sL | apply sC | (apply sB; intro _)) h
def xi0s.s3 (v0:Int) (v1:Zd) (v2:Int) (v3:Zd) (v4:Zd) (v5:Int) (v6:Int):List Cell:=nn 1 (vc (.fn 111 [])::nn 2 (⟨(.box false),[iL v0,.d .deep Yd v1],false,false,false,0,0⟩::⟨(.box false),[iL v2,.d .deep Yd v3],false,false,false,0,0⟩::nn 7 (vc (.d .fro Yd v4)::vc (iL v5)::vc (iL v6)::nn 20 ([]))))
def xi0s.q3:=fun v0 v1 v2 v3 v4 v5 v6 => loopAtL E (callT E tab) 110 Tryz.f110 2 [.r,.r,.l,.r,.b] (xi0s.s3 v0 v1 v2 v3 v4 v5 v6)
def xi0s.l3:=fun v0 v1 v2 v3 v4 v5 v6 => tOf xi0s.mk (xi0s.q3 v0 v1 v2 v3 v4 v5 v6)
def xi0s.t {γ:Type} (ret:(Int × Zd)→Option γ) (lp3:Int→Zd→Int→Zd→Zd→Int→Int→Option γ) (v0:Int) (v1:Zd):Option γ :=
 lp3 ((0:Int)) ([]) (v0) ([]) (v1) ((↑v1.length:Int)) ((0:Int))
def xi0s.t3 {γ:Type} (ret:(Int × Zd)→Option γ) (lp3:Int→Zd→Int→Zd→Zd→Int→Int→Option γ) (v0:Int) (v1:Zd) (v2:Int) (v3:Zd) (v4:Zd) (v5:Int) (v6:Int):Option γ :=
 bif decide (v6<v5) then
 bif decide ((0:Int)≤v6) then
 bif decide (v6.toNat<v4.length) then
 (xi18 ((v4.getD v6.toNat ([],(0:Int))).fst) ((v4.getD v6.toNat ([],(0:Int))).snd)).bind fun (r0:Int) =>
 bif r0 != (0:Int) then
 (xi33 ((v4.getD v6.toNat ([],(0:Int))).fst)).bind fun (r1:(List Int)) =>
 bif decide (v3.length+[(r1,r0)].length≤(4294967296:Nat)) then
 lp3 (v0) (v1) (v2) (v3 ++ [(r1,r0)]) (v4) (v5) (IntKind.i64.wrap (v6+(1:Int)))
 else
 none
 else
 lp3 (v0) (v1) (v2) (v3) (v4) (v5) (IntKind.i64.wrap (v6+(1:Int)))
 else
 none
 else
 none
 else
 ret (v2,v3)
theorem xi0s.u:∀ b,xi0s.un (xi0s.mk b)=b:=fun _ => by kernel_rfl
theorem xi0s.eq (v0 v1) {b} (h:xi0s.t some xi0s.l3 v0 v1=some b):xi0s v0 v1=some b:=eqF xi0s.u Tryz.f110 (callT_le E tab) rfl rfl rfl (xi0s.t (rR xi0s.mk) xi0s.q3 v0 v1) (by kernel_rfl) (by unfold xi0s.t; repeat' first | exact sR | exact sN | exact sL | apply sC | (apply sB; intro _)) h
theorem xi0s.eq3 (v0 v1 v2 v3 v4 v5 v6) {b} (h:xi0s.t3 some xi0s.l3 v0 v1 v2 v3 v4 v5 v6=some b):xi0s.l3 v0 v1 v2 v3 v4 v5 v6=some b:=eqL xi0s.u (xi0s.t3 (rR xi0s.mk) xi0s.q3 v0 v1 v2 v3 v4 v5 v6) (by kernel_rfl) (by unfold xi0s.t3; repeat' first | exact sR | exact sN | exact sL | apply sC | (apply sB; intro _)) h
def xi18.t {γ:Type} (ret:(Int)→Option γ) (v0:List Int) (v1:Int):Option γ :=
 (xi4i (v1)).bind fun (r0:Int) =>
 ret (r0)
theorem xi18.u:∀ b,xi18.un (xi18.mk b)=b:=fun _ => by kernel_rfl
theorem xi18.eq (v0 v1) {b} (h:xi18.t some v0 v1=some b):xi18 v0 v1=some b:=eqF xi18.u Tryz.f111 (callT_le E tab) rfl rfl rfl (xi18.t (rR xi18.mk) v0 v1) (by kernel_rfl) (by unfold xi18.t; repeat' first | exact sR | exact sN | exact sL | apply sC | (apply sB; intro _)) h
def xi4i.t {γ:Type} (ret:(Int)→Option γ) (v0:Int):Option γ :=
 bif decide (v0 > (0:Int)) then
 ret ((1:Int))
 else
 ret ((0:Int))
theorem xi4i.u:∀ b,xi4i.un (xi4i.mk b)=b:=fun _ => by kernel_rfl
theorem xi4i.eq (v0) {b} (h:xi4i.t some v0=some b):xi4i v0=some b:=eqF xi4i.u Tryz.f112 (callT_le E tab) rfl rfl rfl (xi4i.t (rR xi4i.mk) v0) (by kernel_rfl) (by unfold xi4i.t; repeat' first | exact sR | exact sN | exact sL | apply sC | (apply sB; intro _)) h
def xi1t.t {γ:Type} (ret:(Int × Zd)→Option γ) (v0:Int) (v1:Int) (v2:Int) (v3:Ze) (v4:List Int) (v5:Zg) (v6:Zb) (v7:Zb):Option γ :=
 bif v0 == (1:Int) then
 bif decide ((0:Int)≤v1) then
 bif decide (v1.toNat<v6.length) then
 (xi1o ((v6.getD v1.toNat ((0:Int),[])).fst) ((v6.getD v1.toNat ((0:Int),[])).snd) ((1:Int))).bind fun (r0:Int × Zd) =>
 ret (r0.fst,r0.snd)
 else
 none
 else
 none
 else
 bif v0 == (2:Int) then
 bif decide ((0:Int)≤v1) then
 bif decide (v1.toNat<v7.length) then
 (xi1e ((v7.getD v1.toNat ((0:Int),[])).fst) ((v7.getD v1.toNat ((0:Int),[])).snd) (v3)).bind fun (r1:Int × Zd) =>
 ret (r1.fst,r1.snd)
 else
 none
 else
 none
 else
 bif v0 == (3:Int) then
 bif decide ((0:Int)≤v1) then
 bif decide (v1.toNat<v7.length) then
 (xi1b ((v7.getD v1.toNat ((0:Int),[])).fst) ((v7.getD v1.toNat ((0:Int),[])).snd) (v4)).bind fun (r2:Int × Zd) =>
 ret (r2.fst,r2.snd)
 else
 none
 else
 none
 else
 bif v0 == (5:Int) then
 bif decide ((0:Int)≤v1) then
 bif decide (v1.toNat<v7.length) then
 bif decide ((0:Int)≤v1) then
 bif decide (v1.toNat<v7.length) then
 bif decide ((0:Int)≤v2) then
 bif decide (v2.toNat<v7.length) then
 (xi3r ((v7.getD v1.toNat ((0:Int),[])).fst) ([(v7.getD v1.toNat ((0:Int),[])).snd,(v7.getD v2.toNat ((0:Int),[])).snd])).bind fun (r3:Int × Zd) =>
 ret (r3.fst,r3.snd)
 else
 none
 else
 none
 else
 none
 else
 none
 else
 none
 else
 none
 else
 bif decide ((0:Int)≤v1) then
 bif decide (v1.toNat<v7.length) then
 bif decide ((0:Int)≤v1) then
 bif decide (v1.toNat<v7.length) then
 bif decide ((0:Int)≤v2) then
 bif decide (v2.toNat<v7.length) then
 (xi1o ((v7.getD v2.toNat ((0:Int),[])).fst) ((v7.getD v2.toNat ((0:Int),[])).snd) ((-1:Int))).bind fun (r4:Int × Zd) =>
 (xi3r ((v7.getD v1.toNat ((0:Int),[])).fst) ([(v7.getD v1.toNat ((0:Int),[])).snd,r4.snd])).bind fun (r5:Int × Zd) =>
 ret (r5.fst,r5.snd)
 else
 none
 else
 none
 else
 none
 else
 none
 else
 none
 else
 none
theorem xi1t.u:∀ b,xi1t.un (xi1t.mk b)=b:=fun _ => by kernel_rfl
theorem xi1t.eq (v0 v1 v2 v3 v4 v5 v6 v7) {b} (h:xi1t.t some v0 v1 v2 v3 v4 v5 v6 v7=some b):xi1t v0 v1 v2 v3 v4 v5 v6 v7=some b:=eqF xi1t.u Tryz.f67 (callT_le E tab) rfl rfl rfl (xi1t.t (rR xi1t.mk) v0 v1 v2 v3 v4 v5 v6 v7) (by kernel_rfl) (by unfold xi1t.t; repeat' first | exact sR | exact sN | exact sL | apply sC | (apply sB; intro _)) h
def xi1o.s3 (v0:Int) (v1:Int) (v2:Zd) (v3:Int) (v4:Zd) (v5:Zd) (v6:Int) (v7:Int):List Cell:=nn 1 (vc (iL v0)::nn 2 (⟨(.box false),[iL v1,.d .deep Yd v2],false,false,false,0,0⟩::⟨(.box false),[iL v3,.d .deep Yd v4],false,false,false,0,0⟩::nn 6 (vc (.d .fro Yd v5)::vc (iL v6)::vc (iL v7)::nn 20 ([]))))
def xi1o.q3:=fun v0 v1 v2 v3 v4 v5 v6 v7 => loopAtL E (callT E tab) 113 Tryz.f113 2 [.r,.r,.l,.r,.b] (xi1o.s3 v0 v1 v2 v3 v4 v5 v6 v7)
def xi1o.l3:=fun v0 v1 v2 v3 v4 v5 v6 v7 => tOf xi1o.mk (xi1o.q3 v0 v1 v2 v3 v4 v5 v6 v7)
def xi1o.t {γ:Type} (ret:(Int × Zd)→Option γ) (lp3:Int→Int→Zd→Int→Zd→Zd→Int→Int→Option γ) (v0:Int) (v1:Zd) (v2:Int):Option γ :=
 lp3 (v2) ((0:Int)) ([]) (v0) ([]) (v1) ((↑v1.length:Int)) ((0:Int))
def xi1o.t3 {γ:Type} (ret:(Int × Zd)→Option γ) (lp3:Int→Int→Zd→Int→Zd→Zd→Int→Int→Option γ) (v0:Int) (v1:Int) (v2:Zd) (v3:Int) (v4:Zd) (v5:Zd) (v6:Int) (v7:Int):Option γ :=
 bif decide (v7<v6) then
 bif decide ((0:Int)≤v7) then
 bif decide (v7.toNat<v5.length) then
 bif v0 != (0:Int) then
 (xi33 ((v5.getD v7.toNat ([],(0:Int))).fst)).bind fun (r0:(List Int)) =>
 bif decide   (v4.length+[(r0,IntKind.i64.wrap ((v5.getD v7.toNat ([],(0:Int))).snd * v0))].length≤(4294967296:Nat)) then
 lp3 (v0) (v1) (v2) (v3) (v4 ++ [(r0,IntKind.i64.wrap ((v5.getD v7.toNat ([],(0:Int))).snd * v0))]) (v5) (v6) (IntKind.i64.wrap (v7+(1:Int)))
 else
 none
 else
 lp3 (v0) (v1) (v2) (v3) (v4) (v5) (v6) (IntKind.i64.wrap (v7+(1:Int)))
 else
 none
 else
 none
 else
 ret (v3,v4)
theorem xi1o.u:∀ b,xi1o.un (xi1o.mk b)=b:=fun _ => by kernel_rfl
theorem xi1o.eq (v0 v1 v2) {b} (h:xi1o.t some xi1o.l3 v0 v1 v2=some b):xi1o v0 v1 v2=some b:=eqF xi1o.u Tryz.f113 (callT_le E tab) rfl rfl rfl (xi1o.t (rR xi1o.mk) xi1o.q3 v0 v1 v2) (by kernel_rfl) (by unfold xi1o.t; repeat' first | exact sR | exact sN | exact sL | apply sC | (apply sB; intro _)) h
theorem xi1o.eq3 (v0 v1 v2 v3 v4 v5 v6 v7) {b} (h:xi1o.t3 some xi1o.l3 v0 v1 v2 v3 v4 v5 v6 v7=some b):xi1o.l3 v0 v1 v2 v3 v4 v5 v6 v7=some b:=eqL xi1o.u (xi1o.t3 (rR xi1o.mk) xi1o.q3 v0 v1 v2 v3 v4 v5 v6 v7) (by kernel_rfl) (by unfold xi1o.t3; repeat' first | exact sR | exact sN | exact sL | apply sC | (apply sB; intro _)) h
def xi1e.t {γ:Type} (ret:(Int × Zd)→Option γ) (v0:Int) (v1:Zd) (v2:Ze):Option γ :=
 (xi0t (v0) (v1) (v2)).bind fun (r0:Int × Zd) =>
 ret (r0.fst,r0.snd)
theorem xi1e.u:∀ b,xi1e.un (xi1e.mk b)=b:=fun _ => by kernel_rfl
theorem xi1e.eq (v0 v1 v2) {b} (h:xi1e.t some v0 v1 v2=some b):xi1e v0 v1 v2=some b:=eqF xi1e.u Tryz.f114 (callT_le E tab) rfl rfl rfl (xi1e.t (rR xi1e.mk) v0 v1 v2) (by kernel_rfl) (by unfold xi1e.t; repeat' first | exact sR | exact sN | exact sL | apply sC | (apply sB; intro _)) h
def xi0t.s3 (v0:Ze) (v1:Int) (v2:Zd) (v3:Int) (v4:Zd) (v5:Zd) (v6:Int) (v7:Int):List Cell:=nn 1 (vc (.fn 144 [.rp [.d .fro Yc v0] 0])::nn 2 (⟨(.box false),[iL v1,.d .deep Yd v2],false,false,false,0,0⟩::⟨(.box false),[iL v3,.d .deep Yd v4],false,false,false,0,0⟩::nn 7 (vc (.d .fro Yd v5)::vc (iL v6)::vc (iL v7)::nn 20 ([]))))
def xi0t.q3:=fun v0 v1 v2 v3 v4 v5 v6 v7 => loopAtL E (callT E tab) 110 Tryz.f110 2 [.r,.r,.l,.r,.b] (xi0t.s3 v0 v1 v2 v3 v4 v5 v6 v7)
def xi0t.l3:=fun v0 v1 v2 v3 v4 v5 v6 v7 => tOf xi0t.mk (xi0t.q3 v0 v1 v2 v3 v4 v5 v6 v7)
def xi0t.t {γ:Type} (ret:(Int × Zd)→Option γ) (lp3:Ze→Int→Zd→Int→Zd→Zd→Int→Int→Option γ) (v0:Int) (v1:Zd) (v2:Ze):Option γ :=
 lp3 (v2) ((0:Int)) ([]) (v0) ([]) (v1) ((↑v1.length:Int)) ((0:Int))
def xi0t.t3 {γ:Type} (ret:(Int × Zd)→Option γ) (lp3:Ze→Int→Zd→Int→Zd→Zd→Int→Int→Option γ) (v0:Ze) (v1:Int) (v2:Zd) (v3:Int) (v4:Zd) (v5:Zd) (v6:Int) (v7:Int):Option γ :=
 bif decide (v7<v6) then
 bif decide ((0:Int)≤v7) then
 bif decide (v7.toNat<v5.length) then
 (xi19 ((v5.getD v7.toNat ([],(0:Int))).fst) ((v5.getD v7.toNat ([],(0:Int))).snd) (v0)).bind fun (r0:Int) =>
 bif r0 != (0:Int) then
 (xi33 ((v5.getD v7.toNat ([],(0:Int))).fst)).bind fun (r1:(List Int)) =>
 bif decide (v4.length+[(r1,r0)].length≤(4294967296:Nat)) then
 lp3 (v0) (v1) (v2) (v3) (v4 ++ [(r1,r0)]) (v5) (v6) (IntKind.i64.wrap (v7+(1:Int)))
 else
 none
 else
 lp3 (v0) (v1) (v2) (v3) (v4) (v5) (v6) (IntKind.i64.wrap (v7+(1:Int)))
 else
 none
 else
 none
 else
 ret (v3,v4)
theorem xi0t.u:∀ b,xi0t.un (xi0t.mk b)=b:=fun _ => by kernel_rfl
theorem xi0t.eq (v0 v1 v2) {b} (h:xi0t.t some xi0t.l3 v0 v1 v2=some b):xi0t v0 v1 v2=some b:=eqF xi0t.u Tryz.f110 (callT_le E tab) rfl rfl rfl (xi0t.t (rR xi0t.mk) xi0t.q3 v0 v1 v2) (by kernel_rfl) (by unfold xi0t.t; repeat' first | exact sR | exact sN | exact sL | apply sC | (apply sB; intro _)) h
theorem xi0t.eq3 (v0 v1 v2 v3 v4 v5 v6 v7) {b} (h:xi0t.t3 some xi0t.l3 v0 v1 v2 v3 v4 v5 v6 v7=some b):xi0t.l3 v0 v1 v2 v3 v4 v5 v6 v7=some b:=eqL xi0t.u (xi0t.t3 (rR xi0t.mk) xi0t.q3 v0 v1 v2 v3 v4 v5 v6 v7) (by kernel_rfl) (by unfold xi0t.t3; repeat' first | exact sR | exact sN | exact sL | apply sC | (apply sB; intro _)) h
def xi19.t {γ:Type} (ret:(Int)→Option γ) (v0:List Int) (v1:Int) (v2:Ze):Option γ :=
 (xi0l (v2) (v0) (v1)).bind fun (r0:Bool) =>
 bif !r0 then
 ret ((0:Int))
 else
 ret (v1)
theorem xi19.u:∀ b,xi19.un (xi19.mk b)=b:=fun _ => by kernel_rfl
theorem xi19.eq (v0 v1 v2) {b} (h:xi19.t some v0 v1 v2=some b):xi19 v0 v1 v2=some b:=eqF xi19.u Tryz.f144 (callT_le E tab) rfl rfl rfl (xi19.t (rR xi19.mk) v0 v1 v2) (by kernel_rfl) (by unfold xi19.t; repeat' first | exact sR | exact sN | exact sL | apply sC | (apply sB; intro _)) h
def xi0l.t {γ:Type} (ret:(Bool)→Option γ) (v0:Ze) (v1:List Int) (v2:Int):Option γ :=
 (xs00 (v0) (v1) (v2)).bind fun (r0:Bool) =>
 ret (!r0)
theorem xi0l.u:∀ b,xi0l.un (xi0l.mk b)=b:=fun _ => by kernel_rfl
theorem xi0l.eq (v0 v1 v2) {b} (h:xi0l.t some v0 v1 v2=some b):xi0l v0 v1 v2=some b:=eqF xi0l.u Tryz.f133 (callT_le E tab) rfl rfl rfl (xi0l.t (rR xi0l.mk) v0 v1 v2) (by kernel_rfl) (by unfold xi0l.t; repeat' first | exact sR | exact sN | exact sL | apply sC | (apply sB; intro _)) h
def xs00.t {γ:Type} (ret:(Bool)→Option γ) (v0:Ze) (v1:List Int) (v2:Int):Option γ :=
 (xs01 (v0) (v1) (v2)).bind fun (r0:Int) =>
 ret (decide (r0 ≥ (0:Int)))
theorem xs00.u:∀ b,xs00.un (xs00.mk b)=b:=fun _ => by kernel_rfl
theorem xs00.eq (v0 v1 v2) {b} (h:xs00.t some v0 v1 v2=some b):xs00 v0 v1 v2=some b:=eqF xs00.u Tryz.f155 (callT_le E tab) rfl rfl rfl (xs00.t (rR xs00.mk) v0 v1 v2) (by kernel_rfl) (by unfold xs00.t; repeat' first | exact sR | exact sN | exact sL | apply sC | (apply sB; intro _)) h
def xs01.s2 (v0:Ze) (v1:List Int) (v2:Int) (v3:Int) (v4:Int):List Cell:=vc (.d .fro Yc v0)::vc (.fn 156 [.rp [.fn 145 [.rp [.d .fro (.sl (.int .i64)) v1,iL v2] 0]] 0])::nn 5 (vc (iL v3)::vc (iL v4)::nn 10 ([]))
def xs01.q2:=fun v0 v1 v2 v3 v4 => loopAtL E (callT E tab) 163 Tryz.f163 2 [.r,.l,.r,.b] (xs01.s2 v0 v1 v2 v3 v4)
def xs01.l2:=fun v0 v1 v2 v3 v4 => tOf xs01.mk (xs01.q2 v0 v1 v2 v3 v4)
def xs01.t {γ:Type} (ret:(Int)→Option γ) (lp2:Ze→(List Int)→Int→Int→Int→Option γ) (v0:Ze) (v1:List Int) (v2:Int):Option γ :=
 lp2 (v0) (v1) (v2) ((↑v0.length:Int)) ((0:Int))
def xs01.t2 {γ:Type} (ret:(Int)→Option γ) (lp2:Ze→(List Int)→Int→Int→Int→Option γ) (v0:Ze) (v1:List Int) (v2:Int) (v3:Int) (v4:Int):Option γ :=
 bif decide (v4<v3) then
 bif decide ((0:Int)≤v4) then
 bif decide (v4.toNat<v0.length) then
 (xi0k ((v0.getD v4.toNat ((0:Int),(0:Int),(0:Int))).fst) ((v0.getD v4.toNat ((0:Int),(0:Int),(0:Int))).snd.fst) ((v0.getD v4.toNat ((0:Int),(0:Int),(0:Int))).snd.snd) (v1) (v2)).bind fun (r0:Bool) =>
 bif r0 then
 ret (v4)
 else
 lp2 (v0) (v1) (v2) (v3) (IntKind.i64.wrap (v4+(1:Int)))
 else
 none
 else
 none
 else
 ret ((-1:Int))
theorem xs01.u:∀ b,xs01.un (xs01.mk b)=b:=fun _ => by kernel_rfl
theorem xs01.eq (v0 v1 v2) {b} (h:xs01.t some xs01.l2 v0 v1 v2=some b):xs01 v0 v1 v2=some b:=eqF xs01.u Tryz.f163 (callT_le E tab) rfl rfl rfl (xs01.t (rR xs01.mk) xs01.q2 v0 v1 v2) (by kernel_rfl) (by unfold xs01.t; repeat' first | exact sR | exact sN | exact sL | apply sC | (apply sB; intro _)) h
theorem xs01.eq2 (v0 v1 v2 v3 v4) {b} (h:xs01.t2 some xs01.l2 v0 v1 v2 v3 v4=some b):xs01.l2 v0 v1 v2 v3 v4=some b:=eqL xs01.u (xs01.t2 (rR xs01.mk) xs01.q2 v0 v1 v2 v3 v4) (by kernel_rfl) (by unfold xs01.t2; repeat' first | exact sR | exact sN | exact sL | apply sC | (apply sB; intro _)) h
def xi0k.t {γ:Type} (ret:(Bool)→Option γ) (v0:Int) (v1:Int) (v2:Int) (v3:List Int) (v4:Int):Option γ :=
 (xi14 (v0) (v1) (v2) (v3) (v4)).bind fun (r0:Bool) =>
 ret (!r0)
theorem xi0k.u:∀ b,xi0k.un (xi0k.mk b)=b:=fun _ => by kernel_rfl
theorem xi0k.eq (v0 v1 v2 v3 v4) {b} (h:xi0k.t some v0 v1 v2 v3 v4=some b):xi0k v0 v1 v2 v3 v4=some b:=eqF xi0k.u Tryz.f156 (callT_le E tab) rfl rfl rfl (xi0k.t (rR xi0k.mk) v0 v1 v2 v3 v4) (by kernel_rfl) (by unfold xi0k.t; repeat' first | exact sR | exact sN | exact sL | apply sC | (apply sB; intro _)) h
def xi14.t {γ:Type} (ret:(Bool)→Option γ) (v0:Int) (v1:Int) (v2:Int) (v3:List Int) (v4:Int):Option γ :=
 (xi1u (v0) (v1) (v2) (v3)).bind fun (r0:Bool) =>
 ret (r0)
theorem xi14.u:∀ b,xi14.un (xi14.mk b)=b:=fun _ => by kernel_rfl
theorem xi14.eq (v0 v1 v2 v3 v4) {b} (h:xi14.t some v0 v1 v2 v3 v4=some b):xi14 v0 v1 v2 v3 v4=some b:=eqF xi14.u Tryz.f145 (callT_le E tab) rfl rfl rfl (xi14.t (rR xi14.mk) v0 v1 v2 v3 v4) (by kernel_rfl) (by unfold xi14.t; repeat' first | exact sR | exact sN | exact sL | apply sC | (apply sB; intro _)) h
def xi1u.t {γ:Type} (ret:(Bool)→Option γ) (v0:Int) (v1:Int) (v2:Int) (v3:List Int):Option γ :=
 bif decide ((0:Int)≤v1) then
 bif decide (v1.toNat<v3.length) then
 bif v0 == (1:Int) then
 ret (v3.getD v1.toNat (0:Int) == v2)
 else
 bif v0 == (2:Int) then
 ret (decide (v3.getD v1.toNat (0:Int)<v2))
 else
 bif v0 == (3:Int) then
 ret (decide (v3.getD v1.toNat (0:Int) > v2))
 else
 bif decide ((0:Int)≤v2) then
 bif decide (v2.toNat<v3.length) then
 ret (v3.getD v1.toNat (0:Int) == v3.getD v2.toNat (0:Int))
 else
 none
 else
 none
 else
 none
 else
 none
theorem xi1u.u:∀ b,xi1u.un (xi1u.mk b)=b:=fun _ => by kernel_rfl
theorem xi1u.eq (v0 v1 v2 v3) {b} (h:xi1u.t some v0 v1 v2 v3=some b):xi1u v0 v1 v2 v3=some b:=eqF xi1u.u Tryz.f146 (callT_le E tab) rfl rfl rfl (xi1u.t (rR xi1u.mk) v0 v1 v2 v3) (by kernel_rfl) (by unfold xi1u.t; repeat' first | exact sR | exact sN | exact sL | apply sC | (apply sB; intro _)) h
def xi1b.s3 (v0:List Int) (v1:Int) (v2:Zd) (v3:Zd) (v4:Zd) (v5:Int) (v6:Int):List Cell:=nn 1 (vc (.d .fro (.sl (.int .i64)) v0)::nn 2 (⟨(.box false),[iL v1,.d .deep Yd v2],false,false,false,0,0⟩::vc (.d .deep Yd v3)::nn 3 (vc (.d .fro Yd v4)::vc (iL v5)::vc (iL v6)::nn 19 ([]))))
def xi1b.q3:=fun v0 v1 v2 v3 v4 v5 v6 => loopAtL E (callT E tab) 115 Tryz.f115 2 [.r,.r,.l,.r,.b] (xi1b.s3 v0 v1 v2 v3 v4 v5 v6)
def xi1b.l3:=fun v0 v1 v2 v3 v4 v5 v6 => tOf xi1b.mk (xi1b.q3 v0 v1 v2 v3 v4 v5 v6)
def xi1b.t {γ:Type} (ret:(Int × Zd)→Option γ) (lp3:(List Int)→Int→Zd→Zd→Zd→Int→Int→Option γ) (v0:Int) (v1:Zd) (v2:List Int):Option γ :=
 lp3 (v2) ((0:Int)) ([]) ([]) (v1) ((↑v1.length:Int)) ((0:Int))
def xi1b.t3 {γ:Type} (ret:(Int × Zd)→Option γ) (lp3:(List Int)→Int→Zd→Zd→Zd→Int→Int→Option γ) (v0:List Int) (v1:Int) (v2:Zd) (v3:Zd) (v4:Zd) (v5:Int) (v6:Int):Option γ :=
 bif decide (v6<v5) then
 bif decide ((0:Int)≤v6) then
 bif decide (v6.toNat<v4.length) then
 (xi20 ((v4.getD v6.toNat ([],(0:Int))).fst) (v0)).bind fun (r0:(List Int)) =>
 bif decide (v3.length+[(r0,(v4.getD v6.toNat ([],(0:Int))).snd)].length≤(4294967296:Nat)) then
 lp3 (v0) (v1) (v2) (v3 ++ [(r0,(v4.getD v6.toNat ([],(0:Int))).snd)]) (v4) (v5) (IntKind.i64.wrap (v6+(1:Int)))
 else
 none
 else
 none
 else
 none
 else
 (xi3r ((↑v0.length:Int)) ([v3])).bind fun (r1:Int × Zd) =>
 ret (r1.fst,r1.snd)
theorem xi1b.u:∀ b,xi1b.un (xi1b.mk b)=b:=fun _ => by kernel_rfl
theorem xi1b.eq (v0 v1 v2) {b} (h:xi1b.t some xi1b.l3 v0 v1 v2=some b):xi1b v0 v1 v2=some b:=eqF xi1b.u Tryz.f115 (callT_le E tab) rfl rfl rfl (xi1b.t (rR xi1b.mk) xi1b.q3 v0 v1 v2) (by kernel_rfl) (by unfold xi1b.t; repeat' first | exact sR | exact sN | exact sL | apply sC | (apply sB; intro _)) h
theorem xi1b.eq3 (v0 v1 v2 v3 v4 v5 v6) {b} (h:xi1b.t3 some xi1b.l3 v0 v1 v2 v3 v4 v5 v6=some b):xi1b.l3 v0 v1 v2 v3 v4 v5 v6=some b:=eqL xi1b.u (xi1b.t3 (rR xi1b.mk) xi1b.q3 v0 v1 v2 v3 v4 v5 v6) (by kernel_rfl) (by unfold xi1b.t3; repeat' first | exact sR | exact sN | exact sL | apply sC | (apply sB; intro _)) h
def xl2t.s4 (v0:Zb) (v1:Zb) (v2:Int):List Cell:=vc (.d .fro Yb v0)::vc (.d .fro Yb v1)::nn 3 (vc (iL v2)::nn 21 ([]))
def xl2t.q4:=fun v0 v1 v2 => loopAtL E (callT E tab) 12 Tryz.f12 2 [.r,.r,.l,.r,.b] (xl2t.s4 v0 v1 v2)
def xl2t.l4:=fun v0 v1 v2 => tOf xl2t.mk (xl2t.q4 v0 v1 v2)
def xl2t.t {γ:Type} (ret:(Bool)→Option γ) (lp4:Zb→Zb→Int→Option γ) (v0:Zb) (v1:Zb):Option γ :=
 bif (↑v0.length:Int) != (↑v1.length:Int) then
 ret (Bool.false)
 else
 lp4 (v0) (v1) ((0:Int))
def xl2t.t4 {γ:Type} (ret:(Bool)→Option γ) (lp4:Zb→Zb→Int→Option γ) (v0:Zb) (v1:Zb) (v2:Int):Option γ :=
 bif decide (v2<(↑v0.length:Int)) then
 bif decide ((0:Int)≤v2) then
 bif decide (v2.toNat<v0.length) then
 bif decide ((0:Int)≤v2) then
 bif decide (v2.toNat<v1.length) then
 (xl39 ((v0.getD v2.toNat ((0:Int),[])).fst) ((v0.getD v2.toNat ((0:Int),[])).snd) ((v1.getD v2.toNat ((0:Int),[])).fst) ((v1.getD v2.toNat ((0:Int),[])).snd)).bind fun (r0:Bool) =>
 bif !r0 then
 ret (Bool.false)
 else
 lp4 (v0) (v1) (IntKind.i64.wrap (v2+(1:Int)))
 else
 none
 else
 none
 else
 none
 else
 none
 else
 ret (Bool.true)
theorem xl2t.u:∀ b,xl2t.un (xl2t.mk b)=b:=fun _ => by kernel_rfl
theorem xl2t.eq (v0 v1) {b} (h:xl2t.t some xl2t.l4 v0 v1=some b):xl2t v0 v1=some b:=eqF xl2t.u Tryz.f12 (callT_le E tab) rfl rfl rfl (xl2t.t (rR xl2t.mk) xl2t.q4 v0 v1) (by kernel_rfl) (by unfold xl2t.t; repeat' first | exact sR | exact sN | exact sL | apply sC | (apply sB; intro _)) h
theorem xl2t.eq4 (v0 v1 v2) {b} (h:xl2t.t4 some xl2t.l4 v0 v1 v2=some b):xl2t.l4 v0 v1 v2=some b:=eqL xl2t.u (xl2t.t4 (rR xl2t.mk) xl2t.q4 v0 v1 v2) (by kernel_rfl) (by unfold xl2t.t4; repeat' first | exact sR | exact sN | exact sL | apply sC | (apply sB; intro _)) h
def xl39.t {γ:Type} (ret:(Bool)→Option γ) (v0:Int) (v1:Zd) (v2:Int) (v3:Zd):Option γ :=
 bif v0 != v2 then
 ret (Bool.false)
 else
 (xl1w (v1) (v3)).bind fun (r0:Bool) =>
 bif !r0 then
 ret (Bool.false)
 else
 ret (Bool.true)
theorem xl39.u:∀ b,xl39.un (xl39.mk b)=b:=fun _ => by kernel_rfl
theorem xl39.eq (v0 v1 v2 v3) {b} (h:xl39.t some v0 v1 v2 v3=some b):xl39 v0 v1 v2 v3=some b:=eqF xl39.u Tryz.f19 (callT_le E tab) rfl rfl rfl (xl39.t (rR xl39.mk) v0 v1 v2 v3) (by kernel_rfl) (by unfold xl39.t; repeat' first | exact sR | exact sN | exact sL | apply sC | (apply sB; intro _)) h
def xl1w.s4 (v0:Zd) (v1:Zd) (v2:Int):List Cell:=vc (.d .fro Yd v0)::vc (.d .fro Yd v1)::nn 3 (vc (iL v2)::nn 21 ([]))
def xl1w.q4:=fun v0 v1 v2 => loopAtL E (callT E tab) 43 Tryz.f43 2 [.r,.r,.l,.r,.b] (xl1w.s4 v0 v1 v2)
def xl1w.l4:=fun v0 v1 v2 => tOf xl1w.mk (xl1w.q4 v0 v1 v2)
def xl1w.t {γ:Type} (ret:(Bool)→Option γ) (lp4:Zd→Zd→Int→Option γ) (v0:Zd) (v1:Zd):Option γ :=
 bif (↑v0.length:Int) != (↑v1.length:Int) then
 ret (Bool.false)
 else
 lp4 (v0) (v1) ((0:Int))
def xl1w.t4 {γ:Type} (ret:(Bool)→Option γ) (lp4:Zd→Zd→Int→Option γ) (v0:Zd) (v1:Zd) (v2:Int):Option γ :=
 bif decide (v2<(↑v0.length:Int)) then
 bif decide ((0:Int)≤v2) then
 bif decide (v2.toNat<v0.length) then
 bif decide ((0:Int)≤v2) then
 bif decide (v2.toNat<v1.length) then
 (xl26 ((v0.getD v2.toNat ([],(0:Int))).fst) ((v0.getD v2.toNat ([],(0:Int))).snd) ((v1.getD v2.toNat ([],(0:Int))).fst) ((v1.getD v2.toNat ([],(0:Int))).snd)).bind fun (r0:Bool) =>
 bif !r0 then
 ret (Bool.false)
 else
 lp4 (v0) (v1) (IntKind.i64.wrap (v2+(1:Int)))
 else
 none
 else
 none
 else
 none
 else
 none
 else
 ret (Bool.true)
theorem xl1w.u:∀ b,xl1w.un (xl1w.mk b)=b:=fun _ => by kernel_rfl
theorem xl1w.eq (v0 v1) {b} (h:xl1w.t some xl1w.l4 v0 v1=some b):xl1w v0 v1=some b:=eqF xl1w.u Tryz.f43 (callT_le E tab) rfl rfl rfl (xl1w.t (rR xl1w.mk) xl1w.q4 v0 v1) (by kernel_rfl) (by unfold xl1w.t; repeat' first | exact sR | exact sN | exact sL | apply sC | (apply sB; intro _)) h
theorem xl1w.eq4 (v0 v1 v2) {b} (h:xl1w.t4 some xl1w.l4 v0 v1 v2=some b):xl1w.l4 v0 v1 v2=some b:=eqL xl1w.u (xl1w.t4 (rR xl1w.mk) xl1w.q4 v0 v1 v2) (by kernel_rfl) (by unfold xl1w.t4; repeat' first | exact sR | exact sN | exact sL | apply sC | (apply sB; intro _)) h
end
end GoV

/- Equations of the program's functions (printed by wip/tools/emit.py). -/
namespace GoV
open Go Go.Proofs
set_option maxRecDepth 100000
noncomputable section

def xl26.t {γ:Type} (ret:(Bool)→Option γ) (v0:List Int) (v1:Int) (v2:List Int) (v3:Int):Option γ :=
 (xl4b (v0) (v2)).bind fun (r0:Bool) =>
 bif !r0 then
 ret (Bool.false)
 else
 bif v1 != v3 then
 ret (Bool.false)
 else
 ret (Bool.true)
theorem xl26.u:∀ b,xl26.un (xl26.mk b)=b:=fun _ => by kernel_rfl
theorem xl26.eq (v0 v1 v2 v3) {b} (h:xl26.t some v0 v1 v2 v3=some b):xl26 v0 v1 v2 v3=some b:=eqF xl26.u Tryz.f75 (callT_le E tab) rfl rfl rfl (xl26.t (rR xl26.mk) v0 v1 v2 v3) (by kernel_rfl) (by unfold xl26.t; repeat' first | exact sR | exact sN | exact sL | apply sC | (apply sB; intro _)) h
def xl4b.t {γ:Type} (ret:(Bool)→Option γ) (v0:List Int) (v1:List Int):Option γ :=
 (xl3t (v0) (v1)).bind fun (r0:Bool) =>
 bif !r0 then
 ret (Bool.false)
 else
 ret (Bool.true)
theorem xl4b.u:∀ b,xl4b.un (xl4b.mk b)=b:=fun _ => by kernel_rfl
theorem xl4b.eq (v0 v1) {b} (h:xl4b.t some v0 v1=some b):xl4b v0 v1=some b:=eqF xl4b.u Tryz.f120 (callT_le E tab) rfl rfl rfl (xl4b.t (rR xl4b.mk) v0 v1) (by kernel_rfl) (by unfold xl4b.t; repeat' first | exact sR | exact sN | exact sL | apply sC | (apply sB; intro _)) h
def xl3t.s4 (v0:List Int) (v1:List Int) (v2:Int):List Cell:=vc (.d .fro (.sl (.int .i64)) v0)::vc (.d .fro (.sl (.int .i64)) v1)::nn 3 (vc (iL v2)::nn 20 ([]))
def xl3t.q4:=fun v0 v1 v2 => loopAtL E (callT E tab) 37 Tryz.f37 2 [.r,.r,.l,.r,.b] (xl3t.s4 v0 v1 v2)
def xl3t.l4:=fun v0 v1 v2 => tOf xl3t.mk (xl3t.q4 v0 v1 v2)
def xl3t.t {γ:Type} (ret:(Bool)→Option γ) (lp4:(List Int)→(List Int)→Int→Option γ) (v0:List Int) (v1:List Int):Option γ :=
 bif (↑v0.length:Int) != (↑v1.length:Int) then
 ret (Bool.false)
 else
 lp4 (v0) (v1) ((0:Int))
def xl3t.t4 {γ:Type} (ret:(Bool)→Option γ) (lp4:(List Int)→(List Int)→Int→Option γ) (v0:List Int) (v1:List Int) (v2:Int):Option γ :=
 bif decide (v2<(↑v0.length:Int)) then
 bif decide ((0:Int)≤v2) then
 bif decide (v2.toNat<v0.length) then
 bif decide ((0:Int)≤v2) then
 bif decide (v2.toNat<v1.length) then
 bif v0.getD v2.toNat (0:Int) != v1.getD v2.toNat (0:Int) then
 ret (Bool.false)
 else
 lp4 (v0) (v1) (IntKind.i64.wrap (v2+(1:Int)))
 else
 none
 else
 none
 else
 none
 else
 none
 else
 ret (Bool.true)
theorem xl3t.u:∀ b,xl3t.un (xl3t.mk b)=b:=fun _ => by kernel_rfl
theorem xl3t.eq (v0 v1) {b} (h:xl3t.t some xl3t.l4 v0 v1=some b):xl3t v0 v1=some b:=eqF xl3t.u Tryz.f37 (callT_le E tab) rfl rfl rfl (xl3t.t (rR xl3t.mk) xl3t.q4 v0 v1) (by kernel_rfl) (by unfold xl3t.t; repeat' first | exact sR | exact sN | exact sL | apply sC | (apply sB; intro _)) h
theorem xl3t.eq4 (v0 v1 v2) {b} (h:xl3t.t4 some xl3t.l4 v0 v1 v2=some b):xl3t.l4 v0 v1 v2=some b:=eqL xl3t.u (xl3t.t4 (rR xl3t.mk) xl3t.q4 v0 v1 v2) (by kernel_rfl) (by unfold xl3t.t4; repeat' first | exact sR | exact sN | exact sL | apply sC | (apply sB; intro _)) h
def xl3w.t {γ:Type} (ret:(Bool)→Option γ) (v0:List Int) (v1:Za) (v2:List Int) (v3:Za):Option γ :=
 (xl3t (v0) (v2)).bind fun (r0:Bool) =>
 bif !r0 then
 ret (Bool.false)
 else
 (xl38 (v1) (v3)).bind fun (r1:Bool) =>
 bif !r1 then
 ret (Bool.false)
 else
 ret (Bool.true)
theorem xl3w.u:∀ b,xl3w.un (xl3w.mk b)=b:=fun _ => by kernel_rfl
theorem xl3w.eq (v0 v1 v2 v3) {b} (h:xl3w.t some v0 v1 v2 v3=some b):xl3w v0 v1 v2 v3=some b:=eqF xl3w.u Tryz.f13 (callT_le E tab) rfl rfl rfl (xl3w.t (rR xl3w.mk) v0 v1 v2 v3) (by kernel_rfl) (by unfold xl3w.t; repeat' first | exact sR | exact sN | exact sL | apply sC | (apply sB; intro _)) h
def xl38.s4 (v0:Za) (v1:Za) (v2:Int):List Cell:=vc (.d .fro Ya v0)::vc (.d .fro Ya v1)::nn 3 (vc (iL v2)::nn 21 ([]))
def xl38.q4:=fun v0 v1 v2 => loopAtL E (callT E tab) 38 Tryz.f38 2 [.r,.r,.l,.r,.b] (xl38.s4 v0 v1 v2)
def xl38.l4:=fun v0 v1 v2 => tOf xl38.mk (xl38.q4 v0 v1 v2)
def xl38.t {γ:Type} (ret:(Bool)→Option γ) (lp4:Za→Za→Int→Option γ) (v0:Za) (v1:Za):Option γ :=
 bif (↑v0.length:Int) != (↑v1.length:Int) then
 ret (Bool.false)
 else
 lp4 (v0) (v1) ((0:Int))
def xl38.t4 {γ:Type} (ret:(Bool)→Option γ) (lp4:Za→Za→Int→Option γ) (v0:Za) (v1:Za) (v2:Int):Option γ :=
 bif decide (v2<(↑v0.length:Int)) then
 bif decide ((0:Int)≤v2) then
 bif decide (v2.toNat<v0.length) then
 bif decide ((0:Int)≤v2) then
 bif decide (v2.toNat<v1.length) then
 (xl3u ((v0.getD v2.toNat ((0:Int),(0:Int),(0:Int),[],[],[])).fst) ((v0.getD v2.toNat ((0:Int),(0:Int),(0:Int),[],[],[])).snd.fst) ((v0.getD v2.toNat ((0:Int),(0:Int),(0:Int),[],[],[])).snd.snd.fst) ((v0.getD v2.toNat ((0:Int),(0:Int),(0:Int),[],[],[])).snd.snd.snd.fst) ((v0.getD v2.toNat ((0:Int),(0:Int),(0:Int),[],[],[])).snd.snd.snd.snd.fst) ((v0.getD v2.toNat ((0:Int),(0:Int),(0:Int),[],[],[])).snd.snd.snd.snd.snd) ((v1.getD v2.toNat ((0:Int),(0:Int),(0:Int),[],[],[])).fst) ((v1.getD v2.toNat ((0:Int),(0:Int),(0:Int),[],[],[])).snd.fst) ((v1.getD v2.toNat ((0:Int),(0:Int),(0:Int),[],[],[])).snd.snd.fst) ((v1.getD v2.toNat ((0:Int),(0:Int),(0:Int),[],[],[])).snd.snd.snd.fst) ((v1.getD v2.toNat ((0:Int),(0:Int),(0:Int),[],[],[])).snd.snd.snd.snd.fst) ((v1.getD v2.toNat ((0:Int),(0:Int),(0:Int),[],[],[])).snd.snd.snd.snd.snd)).bind fun (r0:Bool) =>
 bif !r0 then
 ret (Bool.false)
 else
 lp4 (v0) (v1) (IntKind.i64.wrap (v2+(1:Int)))
 else
 none
 else
 none
 else
 none
 else
 none
 else
 ret (Bool.true)
theorem xl38.u:∀ b,xl38.un (xl38.mk b)=b:=fun _ => by kernel_rfl
theorem xl38.eq (v0 v1) {b} (h:xl38.t some xl38.l4 v0 v1=some b):xl38 v0 v1=some b:=eqF xl38.u Tryz.f38 (callT_le E tab) rfl rfl rfl (xl38.t (rR xl38.mk) xl38.q4 v0 v1) (by kernel_rfl) (by unfold xl38.t; repeat' first | exact sR | exact sN | exact sL | apply sC | (apply sB; intro _)) h
theorem xl38.eq4 (v0 v1 v2) {b} (h:xl38.t4 some xl38.l4 v0 v1 v2=some b):xl38.l4 v0 v1 v2=some b:=eqL xl38.u (xl38.t4 (rR xl38.mk) xl38.q4 v0 v1 v2) (by kernel_rfl) (by unfold xl38.t4; repeat' first | exact sR | exact sN | exact sL | apply sC | (apply sB; intro _)) h
def xl3u.t {γ:Type} (ret:(Bool)→Option γ) (v0:Int) (v1:Int) (v2:Int) (v3:Ze) (v4:List Int) (v5:Zg) (v6:Int) (v7:Int) (v8:Int) (v9:Ze) (v10:List Int) (v11:Zg):Option γ :=
 bif v0 != v6 then
 ret (Bool.false)
 else
 bif v1 != v7 then
 ret (Bool.false)
 else
 bif v2 != v8 then
 ret (Bool.false)
 else
 (xl3a (v3) (v9)).bind fun (r0:Bool) =>
 bif !r0 then
 ret (Bool.false)
 else
 (xl3t (v4) (v10)).bind fun (r1:Bool) =>
 bif !r1 then
 ret (Bool.false)
 else
 (xl37 (v5) (v11)).bind fun (r2:Bool) =>
 bif !r2 then
 ret (Bool.false)
 else
 ret (Bool.true)
theorem xl3u.u:∀ b,xl3u.un (xl3u.mk b)=b:=fun _ => by kernel_rfl
theorem xl3u.eq (v0 v1 v2 v3 v4 v5 v6 v7 v8 v9 v10 v11) {b} (h:xl3u.t some v0 v1 v2 v3 v4 v5 v6 v7 v8 v9 v10 v11=some b):xl3u v0 v1 v2 v3 v4 v5 v6 v7 v8 v9 v10 v11=some b:=eqF xl3u.u Tryz.f71 (callT_le E tab) rfl rfl rfl (xl3u.t (rR xl3u.mk) v0 v1 v2 v3 v4 v5 v6 v7 v8 v9 v10 v11) (by kernel_rfl) (by unfold xl3u.t; repeat' first | exact sR | exact sN | exact sL | apply sC | (apply sB; intro _)) h
def xl3a.s4 (v0:Ze) (v1:Ze) (v2:Int):List Cell:=vc (.d .fro Yc v0)::vc (.d .fro Yc v1)::nn 3 (vc (iL v2)::nn 21 ([]))
def xl3a.q4:=fun v0 v1 v2 => loopAtL E (callT E tab) 118 Tryz.f118 2 [.r,.r,.l,.r,.b] (xl3a.s4 v0 v1 v2)
def xl3a.l4:=fun v0 v1 v2 => tOf xl3a.mk (xl3a.q4 v0 v1 v2)
def xl3a.t {γ:Type} (ret:(Bool)→Option γ) (lp4:Ze→Ze→Int→Option γ) (v0:Ze) (v1:Ze):Option γ :=
 bif (↑v0.length:Int) != (↑v1.length:Int) then
 ret (Bool.false)
 else
 lp4 (v0) (v1) ((0:Int))
def xl3a.t4 {γ:Type} (ret:(Bool)→Option γ) (lp4:Ze→Ze→Int→Option γ) (v0:Ze) (v1:Ze) (v2:Int):Option γ :=
 bif decide (v2<(↑v0.length:Int)) then
 bif decide ((0:Int)≤v2) then
 bif decide (v2.toNat<v0.length) then
 bif decide ((0:Int)≤v2) then
 bif decide (v2.toNat<v1.length) then
 (xl3v ((v0.getD v2.toNat ((0:Int),(0:Int),(0:Int))).fst) ((v0.getD v2.toNat ((0:Int),(0:Int),(0:Int))).snd.fst) ((v0.getD v2.toNat ((0:Int),(0:Int),(0:Int))).snd.snd) ((v1.getD v2.toNat ((0:Int),(0:Int),(0:Int))).fst) ((v1.getD v2.toNat ((0:Int),(0:Int),(0:Int))).snd.fst) ((v1.getD v2.toNat ((0:Int),(0:Int),(0:Int))).snd.snd)).bind fun (r0:Bool) =>
 bif !r0 then
 ret (Bool.false)
 else
 lp4 (v0) (v1) (IntKind.i64.wrap (v2+(1:Int)))
 else
 none
 else
 none
 else
 none
 else
 none
 else
 ret (Bool.true)
theorem xl3a.u:∀ b,xl3a.un (xl3a.mk b)=b:=fun _ => by kernel_rfl
theorem xl3a.eq (v0 v1) {b} (h:xl3a.t some xl3a.l4 v0 v1=some b):xl3a v0 v1=some b:=eqF xl3a.u Tryz.f118 (callT_le E tab) rfl rfl rfl (xl3a.t (rR xl3a.mk) xl3a.q4 v0 v1) (by kernel_rfl) (by unfold xl3a.t; repeat' first | exact sR | exact sN | exact sL | apply sC | (apply sB; intro _)) h
theorem xl3a.eq4 (v0 v1 v2) {b} (h:xl3a.t4 some xl3a.l4 v0 v1 v2=some b):xl3a.l4 v0 v1 v2=some b:=eqL xl3a.u (xl3a.t4 (rR xl3a.mk) xl3a.q4 v0 v1 v2) (by kernel_rfl) (by unfold xl3a.t4; repeat' first | exact sR | exact sN | exact sL | apply sC | (apply sB; intro _)) h
def xl3v.t {γ:Type} (ret:(Bool)→Option γ) (v0:Int) (v1:Int) (v2:Int) (v3:Int) (v4:Int) (v5:Int):Option γ :=
 bif v0 != v3 then
 ret (Bool.false)
 else
 bif v1 != v4 then
 ret (Bool.false)
 else
 bif v2 != v5 then
 ret (Bool.false)
 else
 ret (Bool.true)
theorem xl3v.u:∀ b,xl3v.un (xl3v.mk b)=b:=fun _ => by kernel_rfl
theorem xl3v.eq (v0 v1 v2 v3 v4 v5) {b} (h:xl3v.t some v0 v1 v2 v3 v4 v5=some b):xl3v v0 v1 v2 v3 v4 v5=some b:=eqF xl3v.u Tryz.f148 (callT_le E tab) rfl rfl rfl (xl3v.t (rR xl3v.mk) v0 v1 v2 v3 v4 v5) (by kernel_rfl) (by unfold xl3v.t; repeat' first | exact sR | exact sN | exact sL | apply sC | (apply sB; intro _)) h
def xl37.s4 (v0:Zg) (v1:Zg) (v2:Int):List Cell:=vc (.d .fro Ye v0)::vc (.d .fro Ye v1)::nn 3 (vc (iL v2)::nn 21 ([]))
def xl37.q4:=fun v0 v1 v2 => loopAtL E (callT E tab) 119 Tryz.f119 2 [.r,.r,.l,.r,.b] (xl37.s4 v0 v1 v2)
def xl37.l4:=fun v0 v1 v2 => tOf xl37.mk (xl37.q4 v0 v1 v2)
def xl37.t {γ:Type} (ret:(Bool)→Option γ) (lp4:Zg→Zg→Int→Option γ) (v0:Zg) (v1:Zg):Option γ :=
 bif (↑v0.length:Int) != (↑v1.length:Int) then
 ret (Bool.false)
 else
 lp4 (v0) (v1) ((0:Int))
def xl37.t4 {γ:Type} (ret:(Bool)→Option γ) (lp4:Zg→Zg→Int→Option γ) (v0:Zg) (v1:Zg) (v2:Int):Option γ :=
 bif decide (v2<(↑v0.length:Int)) then
 bif decide ((0:Int)≤v2) then
 bif decide (v2.toNat<v0.length) then
 bif decide ((0:Int)≤v2) then
 bif decide (v2.toNat<v1.length) then
 (xl3t (v0.getD v2.toNat []) (v1.getD v2.toNat [])).bind fun (r0:Bool) =>
 bif !r0 then
 ret (Bool.false)
 else
 lp4 (v0) (v1) (IntKind.i64.wrap (v2+(1:Int)))
 else
 none
 else
 none
 else
 none
 else
 none
 else
 ret (Bool.true)
theorem xl37.u:∀ b,xl37.un (xl37.mk b)=b:=fun _ => by kernel_rfl
theorem xl37.eq (v0 v1) {b} (h:xl37.t some xl37.l4 v0 v1=some b):xl37 v0 v1=some b:=eqF xl37.u Tryz.f119 (callT_le E tab) rfl rfl rfl (xl37.t (rR xl37.mk) xl37.q4 v0 v1) (by kernel_rfl) (by unfold xl37.t; repeat' first | exact sR | exact sN | exact sL | apply sC | (apply sB; intro _)) h
theorem xl37.eq4 (v0 v1 v2) {b} (h:xl37.t4 some xl37.l4 v0 v1 v2=some b):xl37.l4 v0 v1 v2=some b:=eqL xl37.u (xl37.t4 (rR xl37.mk) xl37.q4 v0 v1 v2) (by kernel_rfl) (by unfold xl37.t4; repeat' first | exact sR | exact sN | exact sL | apply sC | (apply sB; intro _)) h
def xl1r.t {γ:Type} (ret:(Int × (List Int) × Za)→Option γ) (v0:List Int) (v1:Za) (v2:Int):Option γ :=
 (xl1q (v0) (v2)).bind fun (r0:Int × (List Int)) =>
 (xl1l (v1) (r0.fst)).bind fun (r1:Int × Za) =>
 ret (r1.fst,r0.snd,r1.snd)
theorem xl1r.u:∀ b,xl1r.un (xl1r.mk b)=b:=fun _ => by kernel_rfl
theorem xl1r.eq (v0 v1 v2) {b} (h:xl1r.t some v0 v1 v2=some b):xl1r v0 v1 v2=some b:=eqF xl1r.u Tryz.f14 (callT_le E tab) rfl rfl rfl (xl1r.t (rR xl1r.mk) v0 v1 v2) (by kernel_rfl) (by unfold xl1r.t; repeat' first | exact sR | exact sN | exact sL | apply sC | (apply sB; intro _)) h
def xl1q.s2 (v0:List Int) (v1:Int) (v2:Int):List Cell:=⟨(.val .one),[.d .deep (.sl (.int .i64)) v0],true,false,false,0,0⟩::vc (iL v1)::nn 3 (vc (iL v2)::nn 13 ([]))
def xl1q.q2:=fun v0 v1 v2 => loopAtL E (callT E tab) 39 Tryz.f39 2 [.r,.l,.r,.b] (xl1q.s2 v0 v1 v2)
def xl1q.l2:=fun v0 v1 v2 => tOf xl1q.mk (xl1q.q2 v0 v1 v2)
def xl1q.t {γ:Type} (ret:(Int × (List Int))→Option γ) (lp2:(List Int)→Int→Int→Option γ) (v0:List Int) (v1:Int):Option γ :=
 lp2 (v0) (v1) ((0:Int))
def xl1q.t2 {γ:Type} (ret:(Int × (List Int))→Option γ) (lp2:(List Int)→Int→Int→Option γ) (v0:List Int) (v1:Int) (v2:Int):Option γ :=
 bif decide (v2<(↑v0.length:Int)) then
 bif decide ((0:Int)≤v2) then
 bif decide (v2.toNat<v0.length) then
 bif decide (v2.toNat<v0.length) then
 lp2 (v0.set v2.toNat v1) (IntKind.i64.wrap (v1+(1:Int))) (IntKind.i64.wrap (v2+(1:Int)))
 else
 none
 else
 none
 else
 none
 else
 ret (v1,v0)
theorem xl1q.u:∀ b,xl1q.un (xl1q.mk b)=b:=fun _ => by kernel_rfl
theorem xl1q.eq (v0 v1) {b} (h:xl1q.t some xl1q.l2 v0 v1=some b):xl1q v0 v1=some b:=eqF xl1q.u Tryz.f39 (callT_le E tab) rfl rfl rfl (xl1q.t (rR xl1q.mk) xl1q.q2 v0 v1) (by kernel_rfl) (by unfold xl1q.t; repeat' first | exact sR | exact sN | exact sL | apply sC | (apply sB; intro _)) h
theorem xl1q.eq2 (v0 v1 v2) {b} (h:xl1q.t2 some xl1q.l2 v0 v1 v2=some b):xl1q.l2 v0 v1 v2=some b:=eqL xl1q.u (xl1q.t2 (rR xl1q.mk) xl1q.q2 v0 v1 v2) (by kernel_rfl) (by unfold xl1q.t2; repeat' first | exact sR | exact sN | exact sL | apply sC | (apply sB; intro _)) h
def xl1l.s2000003 (v0:Za) (v1:Int) (v2:Int):List Cell:=⟨(.val .one),[.d .deep Ya v0],true,false,false,0,0⟩::vc (iL v1)::nn 3 (vc (iL v2)::nn 49 ([]))
def xl1l.q2000003:=fun v0 v1 v2 => joinAtL E (callT E tab) 40 Tryz.f40 2 [.r,.l,.r,.b,.o,.r,.r] (xl1l.s2000003 v0 v1 v2)
def xl1l.l2000003:=fun v0 v1 v2 => tOf xl1l.mk (xl1l.q2000003 v0 v1 v2)
def xl1l.s2000012 (v0:Za) (v1:Int) (v2:Int):List Cell:=⟨(.val .one),[.d .deep Ya v0],true,false,false,0,0⟩::vc (iL v1)::nn 3 (vc (iL v2)::nn 49 ([]))
def xl1l.q2000012:=fun v0 v1 v2 => joinAtL E (callT E tab) 40 Tryz.f40 2 [.r,.l,.r,.b,.o,.r,.l,.b,.r,.r,.r,.r,.r,.r,.r,.r] (xl1l.s2000012 v0 v1 v2)
def xl1l.l2000012:=fun v0 v1 v2 => tOf xl1l.mk (xl1l.q2000012 v0 v1 v2)
def xl1l.s2000011 (v0:Za) (v1:Int) (v2:Int):List Cell:=⟨(.val .one),[.d .deep Ya v0],true,false,false,0,0⟩::vc (iL v1)::nn 3 (vc (iL v2)::nn 49 ([]))
def xl1l.q2000011:=fun v0 v1 v2 => joinAtL E (callT E tab) 40 Tryz.f40 2 [.r,.l,.r,.b,.o,.r,.l,.b,.r,.r,.r,.r,.r,.r,.r,.l] (xl1l.s2000011 v0 v1 v2)
def xl1l.l2000011:=fun v0 v1 v2 => tOf xl1l.mk (xl1l.q2000011 v0 v1 v2)
def xl1l.s2000010 (v0:Za) (v1:Int) (v2:Int):List Cell:=⟨(.val .one),[.d .deep Ya v0],true,false,false,0,0⟩::vc (iL v1)::nn 3 (vc (iL v2)::nn 49 ([]))
def xl1l.q2000010:=fun v0 v1 v2 => joinAtL E (callT E tab) 40 Tryz.f40 2 [.r,.l,.r,.b,.o,.r,.l,.b,.r,.r,.r,.r,.r,.r,.l] (xl1l.s2000010 v0 v1 v2)
def xl1l.l2000010:=fun v0 v1 v2 => tOf xl1l.mk (xl1l.q2000010 v0 v1 v2)
def xl1l.s2000009 (v0:Za) (v1:Int) (v2:Int):List Cell:=⟨(.val .one),[.d .deep Ya v0],true,false,false,0,0⟩::vc (iL v1)::nn 3 (vc (iL v2)::nn 49 ([]))
def xl1l.q2000009:=fun v0 v1 v2 => joinAtL E (callT E tab) 40 Tryz.f40 2 [.r,.l,.r,.b,.o,.r,.l,.b,.r,.r,.r,.r,.r,.l] (xl1l.s2000009 v0 v1 v2)
def xl1l.l2000009:=fun v0 v1 v2 => tOf xl1l.mk (xl1l.q2000009 v0 v1 v2)
def xl1l.s2000008 (v0:Za) (v1:Int) (v2:Int):List Cell:=⟨(.val .one),[.d .deep Ya v0],true,false,false,0,0⟩::vc (iL v1)::nn 3 (vc (iL v2)::nn 49 ([]))
def xl1l.q2000008:=fun v0 v1 v2 => joinAtL E (callT E tab) 40 Tryz.f40 2 [.r,.l,.r,.b,.o,.r,.l,.b,.r,.r,.r,.r,.l] (xl1l.s2000008 v0 v1 v2)
def xl1l.l2000008:=fun v0 v1 v2 => tOf xl1l.mk (xl1l.q2000008 v0 v1 v2)
def xl1l.s2000007 (v0:Za) (v1:Int) (v2:Int):List Cell:=⟨(.val .one),[.d .deep Ya v0],true,false,false,0,0⟩::vc (iL v1)::nn 3 (vc (iL v2)::nn 49 ([]))
def xl1l.q2000007:=fun v0 v1 v2 => joinAtL E (callT E tab) 40 Tryz.f40 2 [.r,.l,.r,.b,.o,.r,.l,.b,.r,.r,.r,.l] (xl1l.s2000007 v0 v1 v2)
def xl1l.l2000007:=fun v0 v1 v2 => tOf xl1l.mk (xl1l.q2000007 v0 v1 v2)
def xl1l.s2000006 (v0:Za) (v1:Int) (v2:Int):List Cell:=⟨(.val .one),[.d .deep Ya v0],true,false,false,0,0⟩::vc (iL v1)::nn 3 (vc (iL v2)::nn 49 ([]))
def xl1l.q2000006:=fun v0 v1 v2 => joinAtL E (callT E tab) 40 Tryz.f40 2 [.r,.l,.r,.b,.o,.r,.l,.b,.r,.r,.l] (xl1l.s2000006 v0 v1 v2)
def xl1l.l2000006:=fun v0 v1 v2 => tOf xl1l.mk (xl1l.q2000006 v0 v1 v2)
def xl1l.s2000005 (v0:Za) (v1:Int) (v2:Int):List Cell:=⟨(.val .one),[.d .deep Ya v0],true,false,false,0,0⟩::vc (iL v1)::nn 3 (vc (iL v2)::nn 49 ([]))
def xl1l.q2000005:=fun v0 v1 v2 => joinAtL E (callT E tab) 40 Tryz.f40 2 [.r,.l,.r,.b,.o,.r,.l,.b,.r,.l] (xl1l.s2000005 v0 v1 v2)
def xl1l.l2000005:=fun v0 v1 v2 => tOf xl1l.mk (xl1l.q2000005 v0 v1 v2)
def xl1l.s2000004 (v0:Za) (v1:Int) (v2:Int):List Cell:=⟨(.val .one),[.d .deep Ya v0],true,false,false,0,0⟩::vc (iL v1)::nn 3 (vc (iL v2)::nn 49 ([]))
def xl1l.q2000004:=fun v0 v1 v2 => joinAtL E (callT E tab) 40 Tryz.f40 2 [.r,.l,.r,.b,.o,.r,.l,.b,.l] (xl1l.s2000004 v0 v1 v2)
def xl1l.l2000004:=fun v0 v1 v2 => tOf xl1l.mk (xl1l.q2000004 v0 v1 v2)
def xl1l.s2 (v0:Za) (v1:Int) (v2:Int):List Cell:=⟨(.val .one),[.d .deep Ya v0],true,false,false,0,0⟩::vc (iL v1)::nn 3 (vc (iL v2)::nn 49 ([]))
def xl1l.q2:=fun v0 v1 v2 => loopAtL E (callT E tab) 40 Tryz.f40 2 [.r,.l,.r,.b] (xl1l.s2 v0 v1 v2)
def xl1l.l2:=fun v0 v1 v2 => tOf xl1l.mk (xl1l.q2 v0 v1 v2)
def xl1l.t {γ:Type} (ret:(Int × Za)→Option γ) (lp2:Za→Int→Int→Option γ) (v0:Za) (v1:Int):Option γ :=
 lp2 (v0) (v1) ((0:Int))
def xl1l.t2000003 {γ:Type} (ret:(Int × Za)→Option γ) (lp2:Za→Int→Int→Option γ) (v0:Za) (v1:Int) (v2:Int):Option γ :=
 lp2 (v0) (v1) (IntKind.i64.wrap (v2+(1:Int)))
def xl1l.t2000012 {γ:Type} (ret:(Int × Za)→Option γ) (lp2000003:Za→Int→Int→Option γ) (v0:Za) (v1:Int) (v2:Int):Option γ :=
 bif decide ((0:Int)≤v2) then
 bif decide (v2.toNat<v0.length) then
 bif decide (v2.toNat<v0.length) then
 bif decide (v2.toNat<v0.length) then
 (xl1k ((v0.getD v2.toNat ((0:Int),(0:Int),(0:Int),[],[],[])).snd.snd.snd.snd.snd) (v1)).bind fun (r2:Int × Zg) =>
 bif decide (v2.toNat=v2.toNat) &&   (decide ((0:Nat)+(5:Nat)=(0:Nat)+(5:Nat)) &&     decide       ((1:Nat)+((1:Nat)+((1:Nat)+((1:Nat)+((1:Nat)+(1:Nat)))))=        (1:Nat)+((1:Nat)+((1:Nat)+((1:Nat)+((1:Nat)+(1:Nat))))))) then
 bif decide (v2.toNat<v0.length) then
 lp2000003 (v0.set v2.toNat   ((v0.getD v2.toNat ((0:Int),(0:Int),(0:Int),[],[],[])).fst,    (v0.getD v2.toNat ((0:Int),(0:Int),(0:Int),[],[],[])).snd.fst,    (v0.getD v2.toNat ((0:Int),(0:Int),(0:Int),[],[],[])).snd.snd.fst,    (v0.getD v2.toNat ((0:Int),(0:Int),(0:Int),[],[],[])).snd.snd.snd.fst,    (v0.getD v2.toNat ((0:Int),(0:Int),(0:Int),[],[],[])).snd.snd.snd.snd.fst,r2.snd)) (r2.fst) (v2)
 else
 none
 else
 none
 else
 none
 else
 none
 else
 none
 else
 none
def xl1l.t2000011 {γ:Type} (ret:(Int × Za)→Option γ) (lp2000012:Za→Int→Int→Option γ) (v0:Za) (v1:Int) (v2:Int):Option γ :=
 bif decide ((0:Int)≤v2) then
 bif decide (v2.toNat<v0.length) then
 bif decide (v2.toNat<v0.length) then
 bif decide (v2.toNat<v0.length) then
 (xl1q ((v0.getD v2.toNat ((0:Int),(0:Int),(0:Int),[],[],[])).snd.snd.snd.snd.fst) (v1)).bind fun (r1:Int × (List Int)) =>
 bif decide (v2.toNat=v2.toNat) &&   (decide ((0:Nat)+(4:Nat)=(0:Nat)+(4:Nat)) &&     decide       ((1:Nat)+((1:Nat)+((1:Nat)+((1:Nat)+((1:Nat)+(1:Nat)))))=        (1:Nat)+((1:Nat)+((1:Nat)+((1:Nat)+((1:Nat)+(1:Nat))))))) then
 bif decide (v2.toNat<v0.length) then
 lp2000012 (v0.set v2.toNat   ((v0.getD v2.toNat ((0:Int),(0:Int),(0:Int),[],[],[])).fst,    (v0.getD v2.toNat ((0:Int),(0:Int),(0:Int),[],[],[])).snd.fst,    (v0.getD v2.toNat ((0:Int),(0:Int),(0:Int),[],[],[])).snd.snd.fst,    (v0.getD v2.toNat ((0:Int),(0:Int),(0:Int),[],[],[])).snd.snd.snd.fst,r1.snd,    (v0.getD v2.toNat ((0:Int),(0:Int),(0:Int),[],[],[])).snd.snd.snd.snd.snd)) (r1.fst) (v2)
 else
 none
 else
 none
 else
 none
 else
 none
 else
 none
 else
 none
def xl1l.t2000010 {γ:Type} (ret:(Int × Za)→Option γ) (lp2000011:Za→Int→Int→Option γ) (v0:Za) (v1:Int) (v2:Int):Option γ :=
 bif decide ((0:Int)≤v2) then
 bif decide (v2.toNat<v0.length) then
 bif decide (v2.toNat<v0.length) then
 bif decide (v2.toNat<v0.length) then
 (xl1n ((v0.getD v2.toNat ((0:Int),(0:Int),(0:Int),[],[],[])).snd.snd.snd.fst) (v1)).bind fun (r0:Int × Ze) =>
 bif decide (v2.toNat=v2.toNat) &&   (decide ((0:Nat)+(3:Nat)=(0:Nat)+(3:Nat)) &&     decide       ((1:Nat)+((1:Nat)+((1:Nat)+((1:Nat)+((1:Nat)+(1:Nat)))))=        (1:Nat)+((1:Nat)+((1:Nat)+((1:Nat)+((1:Nat)+(1:Nat))))))) then
 bif decide (v2.toNat<v0.length) then
 lp2000011 (v0.set v2.toNat   ((v0.getD v2.toNat ((0:Int),(0:Int),(0:Int),[],[],[])).fst,    (v0.getD v2.toNat ((0:Int),(0:Int),(0:Int),[],[],[])).snd.fst,    (v0.getD v2.toNat ((0:Int),(0:Int),(0:Int),[],[],[])).snd.snd.fst,r0.snd,    (v0.getD v2.toNat ((0:Int),(0:Int),(0:Int),[],[],[])).snd.snd.snd.snd)) (r0.fst) (v2)
 else
 none
 else
 none
 else
 none
 else
 none
 else
 none
 else
 none
def xl1l.t2000009 {γ:Type} (ret:(Int × Za)→Option γ) (lp2000010:Za→Int→Int→Option γ) (v0:Za) (v1:Int) (v2:Int):Option γ :=
 lp2000010 (v0) (IntKind.i64.wrap (v1+(1:Int))) (v2)
def xl1l.t2000008 {γ:Type} (ret:(Int × Za)→Option γ) (lp2000009:Za→Int→Int→Option γ) (v0:Za) (v1:Int) (v2:Int):Option γ :=
 bif decide ((0:Int)≤v2) then
 bif decide (v2.toNat<v0.length) then
 bif decide (v2.toNat<v0.length) then
 lp2000009 (v0.set v2.toNat   ((v0.getD v2.toNat ((0:Int),(0:Int),(0:Int),[],[],[])).fst,    (v0.getD v2.toNat ((0:Int),(0:Int),(0:Int),[],[],[])).snd.fst,v1,    (v0.getD v2.toNat ((0:Int),(0:Int),(0:Int),[],[],[])).snd.snd.snd)) (v1) (v2)
 else
 none
 else
 none
 else
 none
def xl1l.t2000007 {γ:Type} (ret:(Int × Za)→Option γ) (lp2000008:Za→Int→Int→Option γ) (v0:Za) (v1:Int) (v2:Int):Option γ :=
 lp2000008 (v0) (IntKind.i64.wrap (v1+(1:Int))) (v2)
def xl1l.t2000006 {γ:Type} (ret:(Int × Za)→Option γ) (lp2000007:Za→Int→Int→Option γ) (v0:Za) (v1:Int) (v2:Int):Option γ :=
 bif decide ((0:Int)≤v2) then
 bif decide (v2.toNat<v0.length) then
 bif decide (v2.toNat<v0.length) then
 lp2000007 (v0.set v2.toNat   ((v0.getD v2.toNat ((0:Int),(0:Int),(0:Int),[],[],[])).fst,v1,    (v0.getD v2.toNat ((0:Int),(0:Int),(0:Int),[],[],[])).snd.snd)) (v1) (v2)
 else
 none
 else
 none
 else
 none
def xl1l.t2000005 {γ:Type} (ret:(Int × Za)→Option γ) (lp2000006:Za→Int→Int→Option γ) (v0:Za) (v1:Int) (v2:Int):Option γ :=
 lp2000006 (v0) (IntKind.i64.wrap (v1+(1:Int))) (v2)
def xl1l.t2000004 {γ:Type} (ret:(Int × Za)→Option γ) (lp2000005:Za→Int→Int→Option γ) (v0:Za) (v1:Int) (v2:Int):Option γ :=
 bif decide ((0:Int)≤v2) then
 bif decide (v2.toNat<v0.length) then
 bif decide (v2.toNat<v0.length) then
 lp2000005 (v0.set v2.toNat (v1,(v0.getD v2.toNat ((0:Int),(0:Int),(0:Int),[],[],[])).snd)) (v1) (v2)
 else
 none
 else
 none
 else
 none
def xl1l.t2 {γ:Type} (ret:(Int × Za)→Option γ) (lp2000004:Za→Int→Int→Option γ) (v0:Za) (v1:Int) (v2:Int):Option γ :=
 bif decide (v2<(↑v0.length:Int)) then
 lp2000004 (v0) (v1) (v2)
 else
 ret (v1,v0)
theorem xl1l.u:∀ b,xl1l.un (xl1l.mk b)=b:=fun _ => by kernel_rfl
theorem xl1l.eq (v0 v1) {b} (h:xl1l.t some xl1l.l2 v0 v1=some b):xl1l v0 v1=some b:=eqF xl1l.u Tryz.f40 (callT_le E tab) rfl rfl rfl (xl1l.t (rR xl1l.mk) xl1l.q2 v0 v1) (by kernel_rfl) (by unfold xl1l.t; repeat' first | exact sR | exact sN | exact sL | apply sC | (apply sB; intro _)) h
theorem xl1l.eq2000003 (v0 v1 v2) {b} (h:xl1l.t2000003 some xl1l.l2 v0 v1 v2=some b):xl1l.l2000003 v0 v1 v2=some b:=eqJ xl1l.u (xl1l.t2000003 (rR xl1l.mk) xl1l.q2 v0 v1 v2) (by kernel_rfl) (by unfold xl1l.t2000003; repeat' first | exact sR | exact sN | exact sL | apply sC | (apply sB; intro _)) h
theorem xl1l.eq2000012 (v0 v1 v2) {b} (h:xl1l.t2000012 some xl1l.l2000003 v0 v1 v2=some b):xl1l.l2000012 v0 v1 v2=some b:=eqJ xl1l.u (xl1l.t2000012 (rR xl1l.mk) xl1l.q2000003 v0 v1 v2) (by kernel_rfl) (by unfold xl1l.t2000012; repeat' first | exact sR | exact sN | exact sL | apply sC | (apply sB; intro _)) h
theorem xl1l.eq2000011 (v0 v1 v2) {b} (h:xl1l.t2000011 some xl1l.l2000012 v0 v1 v2=some b):xl1l.l2000011 v0 v1 v2=some b:=eqJ xl1l.u (xl1l.t2000011 (rR xl1l.mk) xl1l.q2000012 v0 v1 v2) (by kernel_rfl) (by unfold xl1l.t2000011; repeat' first | exact sR | exact sN | exact sL | apply sC | (apply sB; intro _)) h
theorem xl1l.eq2000010 (v0 v1 v2) {b} (h:xl1l.t2000010 some xl1l.l2000011 v0 v1 v2=some b):xl1l.l2000010 v0 v1 v2=some b:=eqJ xl1l.u (xl1l.t2000010 (rR xl1l.mk) xl1l.q2000011 v0 v1 v2) (by kernel_rfl) (by unfold xl1l.t2000010; repeat' first | exact sR | exact sN | exact sL | apply sC | (apply sB; intro _)) h
theorem xl1l.eq2000009 (v0 v1 v2) {b} (h:xl1l.t2000009 some xl1l.l2000010 v0 v1 v2=some b):xl1l.l2000009 v0 v1 v2=some b:=eqJ xl1l.u (xl1l.t2000009 (rR xl1l.mk) xl1l.q2000010 v0 v1 v2) (by kernel_rfl) (by unfold xl1l.t2000009; repeat' first | exact sR | exact sN | exact sL | apply sC | (apply sB; intro _)) h
theorem xl1l.eq2000008 (v0 v1 v2) {b} (h:xl1l.t2000008 some xl1l.l2000009 v0 v1 v2=some b):xl1l.l2000008 v0 v1 v2=some b:=eqJ xl1l.u (xl1l.t2000008 (rR xl1l.mk) xl1l.q2000009 v0 v1 v2) (by kernel_rfl) (by unfold xl1l.t2000008; repeat' first | exact sR | exact sN | exact sL | apply sC | (apply sB; intro _)) h
theorem xl1l.eq2000007 (v0 v1 v2) {b} (h:xl1l.t2000007 some xl1l.l2000008 v0 v1 v2=some b):xl1l.l2000007 v0 v1 v2=some b:=eqJ xl1l.u (xl1l.t2000007 (rR xl1l.mk) xl1l.q2000008 v0 v1 v2) (by kernel_rfl) (by unfold xl1l.t2000007; repeat' first | exact sR | exact sN | exact sL | apply sC | (apply sB; intro _)) h
theorem xl1l.eq2000006 (v0 v1 v2) {b} (h:xl1l.t2000006 some xl1l.l2000007 v0 v1 v2=some b):xl1l.l2000006 v0 v1 v2=some b:=eqJ xl1l.u (xl1l.t2000006 (rR xl1l.mk) xl1l.q2000007 v0 v1 v2) (by kernel_rfl) (by unfold xl1l.t2000006; repeat' first | exact sR | exact sN | exact sL | apply sC | (apply sB; intro _)) h
theorem xl1l.eq2000005 (v0 v1 v2) {b} (h:xl1l.t2000005 some xl1l.l2000006 v0 v1 v2=some b):xl1l.l2000005 v0 v1 v2=some b:=eqJ xl1l.u (xl1l.t2000005 (rR xl1l.mk) xl1l.q2000006 v0 v1 v2) (by kernel_rfl) (by unfold xl1l.t2000005; repeat' first | exact sR | exact sN | exact sL | apply sC | (apply sB; intro _)) h
theorem xl1l.eq2000004 (v0 v1 v2) {b} (h:xl1l.t2000004 some xl1l.l2000005 v0 v1 v2=some b):xl1l.l2000004 v0 v1 v2=some b:=eqJ xl1l.u (xl1l.t2000004 (rR xl1l.mk) xl1l.q2000005 v0 v1 v2) (by kernel_rfl) (by unfold xl1l.t2000004; repeat' first | exact sR | exact sN | exact sL | apply sC | (apply sB; intro _)) h
theorem xl1l.eq2 (v0 v1 v2) {b} (h:xl1l.t2 some xl1l.l2000004 v0 v1 v2=some b):xl1l.l2 v0 v1 v2=some b:=eqL xl1l.u (xl1l.t2 (rR xl1l.mk) xl1l.q2000004 v0 v1 v2) (by kernel_rfl) (by unfold xl1l.t2; repeat' first | exact sR | exact sN | exact sL | apply sC | (apply sB; intro _)) h
def xl1n.s2 (v0:Ze) (v1:Int) (v2:Int):List Cell:=⟨(.val .one),[.d .deep Yc v0],true,false,false,0,0⟩::vc (iL v1)::nn 3 (vc (iL v2)::nn 28 ([]))
def xl1n.q2:=fun v0 v1 v2 => loopAtL E (callT E tab) 72 Tryz.f72 2 [.r,.l,.r,.b] (xl1n.s2 v0 v1 v2)
def xl1n.l2:=fun v0 v1 v2 => tOf xl1n.mk (xl1n.q2 v0 v1 v2)
def xl1n.t {γ:Type} (ret:(Int × Ze)→Option γ) (lp2:Ze→Int→Int→Option γ) (v0:Ze) (v1:Int):Option γ :=
 lp2 (v0) (v1) ((0:Int))
def xl1n.t2 {γ:Type} (ret:(Int × Ze)→Option γ) (lp2:Ze→Int→Int→Option γ) (v0:Ze) (v1:Int) (v2:Int):Option γ :=
 bif decide (v2<(↑v0.length:Int)) then
 bif decide ((0:Int)≤v2) then
 bif decide (v2.toNat<v0.length) then
 bif decide (v2.toNat<v0.length) then
 bif decide ((0:Int)≤v2) then
 bif decide (v2.toNat<(v0.set v2.toNat (v1,(v0.getD v2.toNat ((0:Int),(0:Int),(0:Int))).snd)).length) then
 bif decide (v2.toNat<(v0.set v2.toNat (v1,(v0.getD v2.toNat ((0:Int),(0:Int),(0:Int))).snd)).length) then
 bif decide ((0:Int)≤v2) then
 bif decide   (v2.toNat<    ((v0.set v2.toNat (v1,(v0.getD v2.toNat ((0:Int),(0:Int),(0:Int))).snd)).set v2.toNat         (((v0.set v2.toNat (v1,(v0.getD v2.toNat ((0:Int),(0:Int),(0:Int))).snd)).getD v2.toNat               ((0:Int),(0:Int),(0:Int))).fst,          IntKind.i64.wrap (v1+(1:Int)),          ((v0.set v2.toNat (v1,(v0.getD v2.toNat ((0:Int),(0:Int),(0:Int))).snd)).getD v2.toNat                 ((0:Int),(0:Int),(0:Int))).snd.snd)).length) then
 bif decide   (v2.toNat<    ((v0.set v2.toNat (v1,(v0.getD v2.toNat ((0:Int),(0:Int),(0:Int))).snd)).set v2.toNat         (((v0.set v2.toNat (v1,(v0.getD v2.toNat ((0:Int),(0:Int),(0:Int))).snd)).getD v2.toNat               ((0:Int),(0:Int),(0:Int))).fst,          IntKind.i64.wrap (v1+(1:Int)),          ((v0.set v2.toNat (v1,(v0.getD v2.toNat ((0:Int),(0:Int),(0:Int))).snd)).getD v2.toNat                 ((0:Int),(0:Int),(0:Int))).snd.snd)).length) then
 lp2 (((v0.set v2.toNat (v1,(v0.getD v2.toNat ((0:Int),(0:Int),(0:Int))).snd)).set v2.toNat       (((v0.set v2.toNat (v1,(v0.getD v2.toNat ((0:Int),(0:Int),(0:Int))).snd)).getD v2.toNat             ((0:Int),(0:Int),(0:Int))).fst,        IntKind.i64.wrap (v1+(1:Int)),        ((v0.set v2.toNat (v1,(v0.getD v2.toNat ((0:Int),(0:Int),(0:Int))).snd)).getD v2.toNat               ((0:Int),(0:Int),(0:Int))).snd.snd)).set   v2.toNat   ((((v0.set v2.toNat (v1,(v0.getD v2.toNat ((0:Int),(0:Int),(0:Int))).snd)).set v2.toNat             (((v0.set v2.toNat (v1,(v0.getD v2.toNat ((0:Int),(0:Int),(0:Int))).snd)).getD v2.toNat                   ((0:Int),(0:Int),(0:Int))).fst,              IntKind.i64.wrap (v1+(1:Int)),              ((v0.set v2.toNat (v1,(v0.getD v2.toNat ((0:Int),(0:Int),(0:Int))).snd)).getD v2.toNat                     ((0:Int),(0:Int),(0:Int))).snd.snd)).getD         v2.toNat ((0:Int),(0:Int),(0:Int))).fst,    (((v0.set v2.toNat (v1,(v0.getD v2.toNat ((0:Int),(0:Int),(0:Int))).snd)).set v2.toNat               (((v0.set v2.toNat (v1,(v0.getD v2.toNat ((0:Int),(0:Int),(0:Int))).snd)).getD v2.toNat                     ((0:Int),(0:Int),(0:Int))).fst,                IntKind.i64.wrap (v1+(1:Int)),                ((v0.set v2.toNat (v1,(v0.getD v2.toNat ((0:Int),(0:Int),(0:Int))).snd)).getD v2.toNat                       ((0:Int),(0:Int),(0:Int))).snd.snd)).getD           v2.toNat ((0:Int),(0:Int),(0:Int))).snd.fst,    IntKind.i64.wrap (IntKind.i64.wrap (v1+(1:Int))+(1:Int)))) (IntKind.i64.wrap (IntKind.i64.wrap (IntKind.i64.wrap (v1+(1:Int))+(1:Int))+(1:Int))) (IntKind.i64.wrap (v2+(1:Int)))
 else
 none
 else
 none
 else
 none
 else
 none
 else
 none
 else
 none
 else
 none
 else
 none
 else
 none
 else
 ret (v1,v0)
theorem xl1n.u:∀ b,xl1n.un (xl1n.mk b)=b:=fun _ => by kernel_rfl
theorem xl1n.eq (v0 v1) {b} (h:xl1n.t some xl1n.l2 v0 v1=some b):xl1n v0 v1=some b:=eqF xl1n.u Tryz.f72 (callT_le E tab) rfl rfl rfl (xl1n.t (rR xl1n.mk) xl1n.q2 v0 v1) (by kernel_rfl) (by unfold xl1n.t; repeat' first | exact sR | exact sN | exact sL | apply sC | (apply sB; intro _)) h
theorem xl1n.eq2 (v0 v1 v2) {b} (h:xl1n.t2 some xl1n.l2 v0 v1 v2=some b):xl1n.l2 v0 v1 v2=some b:=eqL xl1n.u (xl1n.t2 (rR xl1n.mk) xl1n.q2 v0 v1 v2) (by kernel_rfl) (by unfold xl1n.t2; repeat' first | exact sR | exact sN | exact sL | apply sC | (apply sB; intro _)) h
def xl1k.s2 (v0:Zg) (v1:Int) (v2:Int):List Cell:=⟨(.val .one),[.d .deep Ye v0],true,false,false,0,0⟩::vc (iL v1)::nn 3 (vc (iL v2)::nn 13 ([]))
def xl1k.q2:=fun v0 v1 v2 => loopAtL E (callT E tab) 73 Tryz.f73 2 [.r,.l,.r,.b] (xl1k.s2 v0 v1 v2)
def xl1k.l2:=fun v0 v1 v2 => tOf xl1k.mk (xl1k.q2 v0 v1 v2)
def xl1k.t {γ:Type} (ret:(Int × Zg)→Option γ) (lp2:Zg→Int→Int→Option γ) (v0:Zg) (v1:Int):Option γ :=
 lp2 (v0) (v1) ((0:Int))
def xl1k.t2 {γ:Type} (ret:(Int × Zg)→Option γ) (lp2:Zg→Int→Int→Option γ) (v0:Zg) (v1:Int) (v2:Int):Option γ :=
 bif decide (v2<(↑v0.length:Int)) then
 bif decide ((0:Int)≤v2) then
 bif decide (v2.toNat<v0.length) then
 bif decide (v2.toNat<v0.length) then
 bif decide (v2.toNat<v0.length) then
 (xl1q (v0.getD v2.toNat []) (v1)).bind fun (r0:Int × (List Int)) =>
 bif decide (v2.toNat=v2.toNat) &&   (decide ((0:Nat)=(0:Nat)) && decide ((1:Nat)=(1:Nat))) then
 bif decide (v2.toNat<v0.length) then
 lp2 (v0.set v2.toNat r0.snd) (r0.fst) (IntKind.i64.wrap (v2+(1:Int)))
 else
 none
 else
 none
 else
 none
 else
 none
 else
 none
 else
 none
 else
 ret (v1,v0)
theorem xl1k.u:∀ b,xl1k.un (xl1k.mk b)=b:=fun _ => by kernel_rfl
theorem xl1k.eq (v0 v1) {b} (h:xl1k.t some xl1k.l2 v0 v1=some b):xl1k v0 v1=some b:=eqF xl1k.u Tryz.f73 (callT_le E tab) rfl rfl rfl (xl1k.t (rR xl1k.mk) xl1k.q2 v0 v1) (by kernel_rfl) (by unfold xl1k.t; repeat' first | exact sR | exact sN | exact sL | apply sC | (apply sB; intro _)) h
theorem xl1k.eq2 (v0 v1 v2) {b} (h:xl1k.t2 some xl1k.l2 v0 v1 v2=some b):xl1k.l2 v0 v1 v2=some b:=eqL xl1k.u (xl1k.t2 (rR xl1k.mk) xl1k.q2 v0 v1 v2) (by kernel_rfl) (by unfold xl1k.t2; repeat' first | exact sR | exact sN | exact sL | apply sC | (apply sB; intro _)) h
def xl1h.s2 (v0:Zb) (v1:Int) (v2:Int):List Cell:=⟨(.val .one),[.d .deep Yb v0],true,false,false,0,0⟩::vc (iL v1)::nn 3 (vc (iL v2)::nn 21 ([]))
def xl1h.q2:=fun v0 v1 v2 => loopAtL E (callT E tab) 15 Tryz.f15 2 [.r,.l,.r,.b] (xl1h.s2 v0 v1 v2)
def xl1h.l2:=fun v0 v1 v2 => tOf xl1h.mk (xl1h.q2 v0 v1 v2)
def xl1h.t {γ:Type} (ret:(Int × Zb)→Option γ) (lp2:Zb→Int→Int→Option γ) (v0:Zb) (v1:Int):Option γ :=
 lp2 (v0) (v1) ((0:Int))
def xl1h.t2 {γ:Type} (ret:(Int × Zb)→Option γ) (lp2:Zb→Int→Int→Option γ) (v0:Zb) (v1:Int) (v2:Int):Option γ :=
 bif decide (v2<(↑v0.length:Int)) then
 bif decide ((0:Int)≤v2) then
 bif decide (v2.toNat<v0.length) then
 bif decide (v2.toNat<v0.length) then
 bif decide ((0:Int)≤v2) then
 bif decide (v2.toNat<(v0.set v2.toNat (v1,(v0.getD v2.toNat ((0:Int),[])).snd)).length) then
 bif decide (v2.toNat<(v0.set v2.toNat (v1,(v0.getD v2.toNat ((0:Int),[])).snd)).length) then
 bif decide (v2.toNat<(v0.set v2.toNat (v1,(v0.getD v2.toNat ((0:Int),[])).snd)).length) then
 (xl16 (((v0.set v2.toNat (v1,(v0.getD v2.toNat ((0:Int),[])).snd)).getD v2.toNat ((0:Int),[])).snd) (IntKind.i64.wrap (v1+(1:Int)))).bind fun (r0:Int × Zd) =>
 bif decide (v2.toNat=v2.toNat) &&   (decide ((0:Nat)+(1:Nat)=(0:Nat)+(1:Nat)) &&     decide ((1:Nat)+(1:Nat)=(1:Nat)+(1:Nat))) then
 bif decide (v2.toNat<(v0.set v2.toNat (v1,(v0.getD v2.toNat ((0:Int),[])).snd)).length) then
 lp2 ((v0.set v2.toNat (v1,(v0.getD v2.toNat ((0:Int),[])).snd)).set v2.toNat   (((v0.set v2.toNat (v1,(v0.getD v2.toNat ((0:Int),[])).snd)).getD v2.toNat ((0:Int),[])).fst,r0.snd)) (r0.fst) (IntKind.i64.wrap (v2+(1:Int)))
 else
 none
 else
 none
 else
 none
 else
 none
 else
 none
 else
 none
 else
 none
 else
 none
 else
 none
 else
 ret (v1,v0)
theorem xl1h.u:∀ b,xl1h.un (xl1h.mk b)=b:=fun _ => by kernel_rfl
theorem xl1h.eq (v0 v1) {b} (h:xl1h.t some xl1h.l2 v0 v1=some b):xl1h v0 v1=some b:=eqF xl1h.u Tryz.f15 (callT_le E tab) rfl rfl rfl (xl1h.t (rR xl1h.mk) xl1h.q2 v0 v1) (by kernel_rfl) (by unfold xl1h.t; repeat' first | exact sR | exact sN | exact sL | apply sC | (apply sB; intro _)) h
theorem xl1h.eq2 (v0 v1 v2) {b} (h:xl1h.t2 some xl1h.l2 v0 v1 v2=some b):xl1h.l2 v0 v1 v2=some b:=eqL xl1h.u (xl1h.t2 (rR xl1h.mk) xl1h.q2 v0 v1 v2) (by kernel_rfl) (by unfold xl1h.t2; repeat' first | exact sR | exact sN | exact sL | apply sC | (apply sB; intro _)) h
def xl16.s2 (v0:Zd) (v1:Int) (v2:Int):List Cell:=⟨(.val .one),[.d .deep Yd v0],true,false,false,0,0⟩::vc (iL v1)::nn 3 (vc (iL v2)::nn 22 ([]))
def xl16.q2:=fun v0 v1 v2 => loopAtL E (callT E tab) 41 Tryz.f41 2 [.r,.l,.r,.b] (xl16.s2 v0 v1 v2)
def xl16.l2:=fun v0 v1 v2 => tOf xl16.mk (xl16.q2 v0 v1 v2)
def xl16.t {γ:Type} (ret:(Int × Zd)→Option γ) (lp2:Zd→Int→Int→Option γ) (v0:Zd) (v1:Int):Option γ :=
 lp2 (v0) (v1) ((0:Int))
def xl16.t2 {γ:Type} (ret:(Int × Zd)→Option γ) (lp2:Zd→Int→Int→Option γ) (v0:Zd) (v1:Int) (v2:Int):Option γ :=
 bif decide (v2<(↑v0.length:Int)) then
 bif decide ((0:Int)≤v2) then
 bif decide (v2.toNat<v0.length) then
 bif decide (v2.toNat<v0.length) then
 bif decide (v2.toNat<v0.length) then
 (xl1q ((v0.getD v2.toNat ([],(0:Int))).fst) (v1)).bind fun (r0:Int × (List Int)) =>
 bif decide (v2.toNat=v2.toNat) &&   (decide ((0:Nat)+(0:Nat)+(0:Nat)=(0:Nat)+(0:Nat)+(0:Nat)) &&     decide ((1:Nat)+(1:Nat)=(1:Nat)+(1:Nat))) then
 bif decide (v2.toNat<v0.length) then
 bif decide ((0:Int)≤v2) then
 bif decide (v2.toNat<(v0.set v2.toNat (r0.snd,(v0.getD v2.toNat ([],(0:Int))).snd)).length) then
 bif decide (v2.toNat<(v0.set v2.toNat (r0.snd,(v0.getD v2.toNat ([],(0:Int))).snd)).length) then
 lp2 ((v0.set v2.toNat (r0.snd,(v0.getD v2.toNat ([],(0:Int))).snd)).set v2.toNat   (((v0.set v2.toNat (r0.snd,(v0.getD v2.toNat ([],(0:Int))).snd)).getD v2.toNat ([],(0:Int))).fst,r0.fst)) (IntKind.i64.wrap (r0.fst+(1:Int))) (IntKind.i64.wrap (v2+(1:Int)))
 else
 none
 else
 none
 else
 none
 else
 none
 else
 none
 else
 none
 else
 none
 else
 none
 else
 none
 else
 ret (v1,v0)
theorem xl16.u:∀ b,xl16.un (xl16.mk b)=b:=fun _ => by kernel_rfl
theorem xl16.eq (v0 v1) {b} (h:xl16.t some xl16.l2 v0 v1=some b):xl16 v0 v1=some b:=eqF xl16.u Tryz.f41 (callT_le E tab) rfl rfl rfl (xl16.t (rR xl16.mk) xl16.q2 v0 v1) (by kernel_rfl) (by unfold xl16.t; repeat' first | exact sR | exact sN | exact sL | apply sC | (apply sB; intro _)) h
theorem xl16.eq2 (v0 v1 v2) {b} (h:xl16.t2 some xl16.l2 v0 v1 v2=some b):xl16.l2 v0 v1 v2=some b:=eqL xl16.u (xl16.t2 (rR xl16.mk) xl16.q2 v0 v1 v2) (by kernel_rfl) (by unfold xl16.t2; repeat' first | exact sR | exact sN | exact sL | apply sC | (apply sB; intro _)) h
def xl1j.s2 (v0:Zd) (v1:Int) (v2:Int):List Cell:=vc (.d .fro Yd v0)::vc (iL v1)::nn 3 (vc (iL v2)::nn 26 ([]))
def xl1j.q2:=fun v0 v1 v2 => loopAtL E (callT E tab) 42 Tryz.f42 2 [.r,.l,.r,.b] (xl1j.s2 v0 v1 v2)
def xl1j.l2:=fun v0 v1 v2 => tOf xl1j.mk (xl1j.q2 v0 v1 v2)
def xl1j.t {γ:Type} (ret:(Int)→Option γ) (lp2:Zd→Int→Int→Option γ) (v0:Zd) (v1:Int):Option γ :=
 lp2 (v0) (v1) ((0:Int))
def xl1j.t2 {γ:Type} (ret:(Int)→Option γ) (lp2:Zd→Int→Int→Option γ) (v0:Zd) (v1:Int) (v2:Int):Option γ :=
 bif decide (v2<(↑v0.length:Int)) then
 bif decide ((0:Int)≤v2) then
 bif decide (v2.toNat<v0.length) then
 (xl2u ((v0.getD v2.toNat ([],(0:Int))).fst) (v1)).bind fun (r0:Int) =>
 bif decide (r0<(0:Int)) then
 ret ((-1:Int))
 else
 bif decide ((0:Int)≤v2) then
 bif decide (v2.toNat<v0.length) then
 bif (v0.getD v2.toNat ([],(0:Int))).snd != r0 then
 ret ((-1:Int))
 else
 lp2 (v0) (IntKind.i64.wrap (r0+(1:Int))) (IntKind.i64.wrap (v2+(1:Int)))
 else
 none
 else
 none
 else
 none
 else
 none
 else
 ret (v1)
theorem xl1j.u:∀ b,xl1j.un (xl1j.mk b)=b:=fun _ => by kernel_rfl
theorem xl1j.eq (v0 v1) {b} (h:xl1j.t some xl1j.l2 v0 v1=some b):xl1j v0 v1=some b:=eqF xl1j.u Tryz.f42 (callT_le E tab) rfl rfl rfl (xl1j.t (rR xl1j.mk) xl1j.q2 v0 v1) (by kernel_rfl) (by unfold xl1j.t; repeat' first | exact sR | exact sN | exact sL | apply sC | (apply sB; intro _)) h
theorem xl1j.eq2 (v0 v1 v2) {b} (h:xl1j.t2 some xl1j.l2 v0 v1 v2=some b):xl1j.l2 v0 v1 v2=some b:=eqL xl1j.u (xl1j.t2 (rR xl1j.mk) xl1j.q2 v0 v1 v2) (by kernel_rfl) (by unfold xl1j.t2; repeat' first | exact sR | exact sN | exact sL | apply sC | (apply sB; intro _)) h
def xl2u.s2 (v0:List Int) (v1:Int) (v2:Int):List Cell:=vc (.d .fro (.sl (.int .i64)) v0)::vc (iL v1)::nn 3 (vc (iL v2)::nn 15 ([]))
def xl2u.q2:=fun v0 v1 v2 => loopAtL E (callT E tab) 74 Tryz.f74 2 [.r,.l,.r,.b] (xl2u.s2 v0 v1 v2)
def xl2u.l2:=fun v0 v1 v2 => tOf xl2u.mk (xl2u.q2 v0 v1 v2)
def xl2u.t {γ:Type} (ret:(Int)→Option γ) (lp2:(List Int)→Int→Int→Option γ) (v0:List Int) (v1:Int):Option γ :=
 lp2 (v0) (v1) ((0:Int))
def xl2u.t2 {γ:Type} (ret:(Int)→Option γ) (lp2:(List Int)→Int→Int→Option γ) (v0:List Int) (v1:Int) (v2:Int):Option γ :=
 bif decide (v2<(↑v0.length:Int)) then
 bif decide ((0:Int)≤v2) then
 bif decide (v2.toNat<v0.length) then
 bif v0.getD v2.toNat (0:Int) != v1 then
 ret ((-1:Int))
 else
 lp2 (v0) (IntKind.i64.wrap (v1+(1:Int))) (IntKind.i64.wrap (v2+(1:Int)))
 else
 none
 else
 none
 else
 ret (v1)
theorem xl2u.u:∀ b,xl2u.un (xl2u.mk b)=b:=fun _ => by kernel_rfl
theorem xl2u.eq (v0 v1) {b} (h:xl2u.t some xl2u.l2 v0 v1=some b):xl2u v0 v1=some b:=eqF xl2u.u Tryz.f74 (callT_le E tab) rfl rfl rfl (xl2u.t (rR xl2u.mk) xl2u.q2 v0 v1) (by kernel_rfl) (by unfold xl2u.t; repeat' first | exact sR | exact sN | exact sL | apply sC | (apply sB; intro _)) h
theorem xl2u.eq2 (v0 v1 v2) {b} (h:xl2u.t2 some xl2u.l2 v0 v1 v2=some b):xl2u.l2 v0 v1 v2=some b:=eqL xl2u.u (xl2u.t2 (rR xl2u.mk) xl2u.q2 v0 v1 v2) (by kernel_rfl) (by unfold xl2u.t2; repeat' first | exact sR | exact sN | exact sL | apply sC | (apply sB; intro _)) h
def xl1g.t {γ:Type} (ret:(Bool)→Option γ) (v0:List Int) (v1:Za) (v2:Zb):Option γ :=
 (xl3z (v0) (v1) ((1048576:Int))).bind fun (r0:Int) =>
 bif decide (r0<(0:Int)) then
 ret (Bool.true)
 else
 (xl2v (v2) (r0)).bind fun (r1:Int) =>
 bif decide (r1<(0:Int)) then
 ret (Bool.true)
 else
 (xl43 (v0) (v1)).bind fun (r2:(List Int) × Za) =>
 (xl2w (v2)).bind fun (r3:Zb) =>
 (xs3k (r2.fst) (r2.snd) (r3)).bind fun (r4:Int × Zd × Bool) =>
 (xl43 (v0) (v1)).bind fun (r5:(List Int) × Za) =>
 (xl2w (v2)).bind fun (r6:Zb) =>
 (xi34 (r5.fst) (r5.snd) (r6)).bind fun (r7:Int × Zd × Bool) =>
 (xl39 (r7.fst) (r7.snd.fst) (r4.fst) (r4.snd.fst)).bind fun (r8:Bool) =>
 bif !r8 then
 ret (Bool.false)
 else
 bif !r7.snd.snd == r4.snd.snd then
 ret (Bool.false)
 else
 (xl43 (v0) (v1)).bind fun (r9:(List Int) × Za) =>
 (xl3w (r5.fst) (r5.snd) (r9.fst) (r9.snd)).bind fun (r10:Bool) =>
 bif !r10 then
 ret (Bool.false)
 else
 (xl2w (v2)).bind fun (r11:Zb) =>
 (xl2t (r6) (r11)).bind fun (r12:Bool) =>
 bif !r12 then
 ret (Bool.false)
 else
 (xl1r (r5.fst) (r5.snd) ((1:Int))).bind fun (r13:Int × (List Int) × Za) =>
 (xl1h (r6) (r13.fst)).bind fun (r14:Int × Zb) =>
 bif decide (r14.fst<(0:Int)) then
 ret (Bool.false)
 else
 (xl39 (r7.fst) (r7.snd.fst) (r4.fst) (r4.snd.fst)).bind fun (r15:Bool) =>
 bif !r15 then
 ret (Bool.false)
 else
 bif !r7.snd.snd == r4.snd.snd then
 ret (Bool.false)
 else
 (xl1m (r7.fst) (r7.snd.fst) ((1:Int))).bind fun (r16:Int × Int × Zd) =>
 (xl2g (r7.fst) (r16.snd.snd) ((1:Int))).bind fun (r17:Int) =>
 bif decide (r17<(0:Int)) then
 ret (Bool.false)
 else
 bif r17 != r16.fst then
 ret (Bool.false)
 else
 (xl43 (v0) (v1)).bind fun (r18:(List Int) × Za) =>
 (xl2w (v2)).bind fun (r19:Zb) =>
 (xi34 (r18.fst) (r18.snd) (r19)).bind fun (r20:Int × Zd × Bool) =>
 (xl39 (r20.fst) (r20.snd.fst) (r4.fst) (r4.snd.fst)).bind fun (r21:Bool) =>
 bif !r21 then
 ret (Bool.false)
 else
 bif !r20.snd.snd == r4.snd.snd then
 ret (Bool.false)
 else
 (xl2g (r7.fst) (r16.snd.snd) ((1:Int))).bind fun (r22:Int) =>
 bif decide (r22<(0:Int)) then
 ret (Bool.false)
 else
 bif r22 != r16.fst then
 ret (Bool.false)
 else
 ret (Bool.true)
theorem xl1g.u:∀ b,xl1g.un (xl1g.mk b)=b:=fun _ => by kernel_rfl
theorem xl1g.eq (v0 v1 v2) {b} (h:xl1g.t some v0 v1 v2=some b):xl1g v0 v1 v2=some b:=eqF xl1g.u Tryz.f4 (callT_le E tab) rfl rfl rfl (xl1g.t (rR xl1g.mk) v0 v1 v2) (by kernel_rfl) (by unfold xl1g.t; repeat' first | exact sR | exact sN | exact sL | apply sC | (apply sB; intro _)) h
def xs3k.t {γ:Type} (ret:(Int × Zd × Bool)→Option γ) (v0:List Int) (v1:Za) (v2:Zb):Option γ :=
 (xs44 (v0) (v1) (v2)).bind fun (r0:Zb × Bool) =>
 bif !r0.snd then
 ret ((0:Int),[],Bool.false)
 else
 bif decide ((0:Int)≤IntKind.i64.wrap ((↑r0.fst.length:Int) - (1:Int))) then
 bif decide ((IntKind.i64.wrap ((↑r0.fst.length:Int) - (1:Int))).toNat<r0.fst.length) then
 bif decide ((IntKind.i64.wrap ((↑r0.fst.length:Int) - (1:Int))).toNat<r0.fst.length) then
 ret ((r0.fst.getD (IntKind.i64.wrap ((↑r0.fst.length:Int) - (1:Int))).toNat ((0:Int),[])).fst,(r0.fst.getD (IntKind.i64.wrap ((↑r0.fst.length:Int) - (1:Int))).toNat ((0:Int),[])).snd,Bool.true)
 else
 none
 else
 none
 else
 none
theorem xs3k.u:∀ b,xs3k.un (xs3k.mk b)=b:=fun _ => by kernel_rfl
theorem xs3k.eq (v0 v1 v2) {b} (h:xs3k.t some v0 v1 v2=some b):xs3k v0 v1 v2=some b:=eqF xs3k.u Tryz.f17 (callT_le E tab) rfl rfl rfl (xs3k.t (rR xs3k.mk) v0 v1 v2) (by kernel_rfl) (by unfold xs3k.t; repeat' first | exact sR | exact sN | exact sL | apply sC | (apply sB; intro _)) h
end
end GoV

/- Equations of the program's functions (printed by wip/tools/emit.py). -/
namespace GoV
open Go Go.Proofs
set_option maxRecDepth 100000
noncomputable section

def xi34.t {γ:Type} (ret:(Int × Zd × Bool)→Option γ) (v0:List Int) (v1:Za) (v2:Zb):Option γ :=
 (xi3o (v0) (v1) (v2)).bind fun (r0:Zb × Bool) =>
 bif !r0.snd then
 ret ((0:Int),[],Bool.false)
 else
 bif decide ((0:Int)≤IntKind.i64.wrap ((↑r0.fst.length:Int) - (1:Int))) then
 bif decide ((IntKind.i64.wrap ((↑r0.fst.length:Int) - (1:Int))).toNat<r0.fst.length) then
 bif decide ((IntKind.i64.wrap ((↑r0.fst.length:Int) - (1:Int))).toNat<r0.fst.length) then
 bif decide ((IntKind.i64.wrap ((↑r0.fst.length:Int) - (1:Int))).toNat<r0.fst.length) then
 bif decide ((IntKind.i64.wrap ((↑r0.fst.length:Int) - (1:Int))).toNat<r0.fst.length) then
 ret ((r0.fst.getD (IntKind.i64.wrap ((↑r0.fst.length:Int) - (1:Int))).toNat ((0:Int),[])).fst,(r0.fst.getD (IntKind.i64.wrap ((↑r0.fst.length:Int) - (1:Int))).toNat ((0:Int),[])).snd,Bool.true)
 else
 none
 else
 none
 else
 none
 else
 none
 else
 none
theorem xi34.u:∀ b,xi34.un (xi34.mk b)=b:=fun _ => by kernel_rfl
theorem xi34.eq (v0 v1 v2) {b} (h:xi34.t some v0 v1 v2=some b):xi34 v0 v1 v2=some b:=eqF xi34.u Tryz.f18 (callT_le E tab) rfl rfl rfl (xi34.t (rR xi34.mk) v0 v1 v2) (by kernel_rfl) (by unfold xi34.t; repeat' first | exact sR | exact sN | exact sL | apply sC | (apply sB; intro _)) h
def xl1m.t {γ:Type} (ret:(Int × Int × Zd)→Option γ) (v0:Int) (v1:Zd) (v2:Int):Option γ :=
 (xl16 (v1) (v2)).bind fun (r0:Int × Zd) =>
 ret (r0.fst,v0,r0.snd)
theorem xl1m.u:∀ b,xl1m.un (xl1m.mk b)=b:=fun _ => by kernel_rfl
theorem xl1m.eq (v0 v1 v2) {b} (h:xl1m.t some v0 v1 v2=some b):xl1m v0 v1 v2=some b:=eqF xl1m.u Tryz.f20 (callT_le E tab) rfl rfl rfl (xl1m.t (rR xl1m.mk) v0 v1 v2) (by kernel_rfl) (by unfold xl1m.t; repeat' first | exact sR | exact sN | exact sL | apply sC | (apply sB; intro _)) h
def xl2g.t {γ:Type} (ret:(Int)→Option γ) (v0:Int) (v1:Zd) (v2:Int):Option γ :=
 (xl1j (v1) (v2)).bind fun (r0:Int) =>
 bif decide (r0<(0:Int)) then
 ret ((-1:Int))
 else
 ret (r0)
theorem xl2g.u:∀ b,xl2g.un (xl2g.mk b)=b:=fun _ => by kernel_rfl
theorem xl2g.eq (v0 v1 v2) {b} (h:xl2g.t some v0 v1 v2=some b):xl2g v0 v1 v2=some b:=eqF xl2g.u Tryz.f21 (callT_le E tab) rfl rfl rfl (xl2g.t (rR xl2g.mk) v0 v1 v2) (by kernel_rfl) (by unfold xl2g.t; repeat' first | exact sR | exact sN | exact sL | apply sC | (apply sB; intro _)) h
end
end GoV
