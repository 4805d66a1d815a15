/- What functions compute. No conditions. -/
import Derived.Test.YtokcpkcoahlkjaaProg
import Derived.Test.YtokcpkcoahlkjaaW10
import Derived.KernelRfl
import Derived.Test.YtokcpkcoahlkjaaW12
import Derived.Test.YtokcpkcoahlkjaaW13
import Derived.Test.YtokcpkcoahlkjaaEng8
import Derived.IntWalk
set_option linter.all false
namespace Go.Ab
open Go Go.Proofs
set_option maxRecDepth 100000
set_option maxHeartbeats 4000000
section
attribute [local irreducible] RW WP
theorem Qps  : Ct Try.prog 20 [] (Qgf) (fun x=>vB x) (fun x=>[]):=by
 refine hfn [] Try.func20 <| hcl 1 [] (g_law24_rain_ok ) fun x1 _=>hop 0 (fun _=>sgL false [] [] true gE) <| hop 0 (fun _=>sgL false [] [] false gE) <| hcl 11 [F eTapi_Node x1.Nodes] (g_sensitive_Line_ok x1 [-1,1] 0 1 (Tapi_Shift.mk 0 0 0 1)) fun x3 _=>hcl 9 [F eTapi_Node x1.Nodes] (g_sensitive_Line_ok x1 [-1,1] 0 1 (Tapi_Shift.mk 1 1 1 0)) fun x5 _=>hcl 10 [F eTapi_Node x1.Nodes] (g_sensitive_At_ok x1 [-1,1] 0 1 (Tapi_Shift.mk 0 0 0 1) (Tapi_Q.mk 8 1)) fun x7 _=>hop 7 (fun _=>sgL false [] [] true gE) <| hcl 1 [F eTapi_Node x1.Nodes] (g_sensitive_Line_ok x1 [2,0] 0 1 (Tapi_Shift.mk 0 0 0 1)) fun x9 _=>?_
 refine hcl 9 [F eTapi_Node x1.Nodes] (g_sensitive_Line_ok x1 [-1,1] 2 0 (Tapi_Shift.mk 0 0 0 1)) fun x11 _=>hcl 9 [F eTapi_Node x1.Nodes] (g_sensitive_Line_ok x1 [-1,1] 0 1 (Tapi_Shift.mk 0 0 0 0)) fun x13 _=>hcl 10 [F eTapi_Node x1.Nodes] (g_sensitive_At_ok x1 [-1,1] 0 1 (Tapi_Shift.mk 0 0 0 1) (Tapi_Q.mk 2 4)) fun x15 _=>hcl 10 [F eTapi_Node x1.Nodes] (g_sensitive_At_ok x1 [-1,1] 0 1 (Tapi_Shift.mk 0 0 0 1) (Tapi_Q.mk 1 2000)) fun x17 _=>hbr 13 [89,90] (?_) ?_
 ·refine hbr 4 [92,93,94] (?_) ?_
  ·refine hbr 5 [97,98,99] (?_) ?_
   ·refine hbr 4 [101,102,103] (?_) ?_
    ·refine hbr 4 [105,106,107] (?_) ?_
     ·refine hbr 4 [109,110,111] (?_) ?_
      ·refine hbr 4 [113,114,115] (?_) ?_
       ·refine hbr 4 [117,118,119] (?_) ?_
        ·refine hbr 4 [121,122,123] (?_) ?_
         ·refine hbr 4 [125,126,127] (?_) ?_
          ·refine hcl 0 [] (Qgd 0 12 19) fun x39 _=>hbr 2 [128,129,130] (?_) ?_
           ·refine hcl 0 [] (Qgd 1 8 11) fun x43 _=>hbr 2 [131,132,133] (?_) ?_
            ·refine hcl 0 [] (Qgd 7 1 1) fun x47 _=>hbr 4 [134,135,22,136,137] (?_) ?_
             ·refine hcl 4 [] (g_law24_threshold_ok [-1,1] (Tapi_Shift.mk 0 0 0 1) (Tapi_Q.mk 1 2) (Tapi_Q.mk (-1) 1) 0) fun x51 _=>hbr 2 [142,143,144] (?_) ?_
              ·refine hcl 1 [] (g_law24_stay_ok [-1,1] (-1) 7) fun x55 _=>hbr 2 [146,147,148] (?_) ?_
               ·refine hop 0 (fun _=>sgL false [] [] true gE) <| hcl 0 [] (g_law24_stay_ok [-1,-1] (-3) 2) fun x59 _=>hbr 4 [22,150,151,152,153] (?_) ?_
                ·refine hcl 4 [] (g_law24_threshold_ok [-1,1] (Tapi_Shift.mk 0 0 0 1) (Tapi_Q.mk 0 1) (Tapi_Q.mk (-3) 1) 0) fun x63 _=>hbr 2 [158,159,160] (?_) ?_
                 ·refine hcl 4 [] (g_law24_threshold_ok [-1,1] (Tapi_Shift.mk 1 1 1 0) (Tapi_Q.mk 1 2) (Tapi_Q.mk 10 3) 0) fun x67 _=>hbr 2 [165,166,167] (?_) ?_
                  ·refine hop 0 (fun _=>sgL false [] [] true gE) <| hcl 3 [] (g_law24_threshold_ok [1,1] (Tapi_Shift.mk 0 0 0 1) (Tapi_Q.mk 1 1) (Tapi_Q.mk 0 0) 4) fun x71 _=>hbr 2 [172,173,174] (hcl 4 [] (g_law24_threshold_ok [-1,1] (Tapi_Shift.mk 1 1 1 0) (Tapi_Q.mk 3 4) (Tapi_Q.mk 0 0) 4) fun x75 _=>hrt 3) <| ?_
                   refine hrt 8
                  refine hrt 15
                 refine hrt 22
                refine hrt 29
               refine hrt 35
              refine hrt 39
             refine hrt 46
            refine hrt 51
           refine hrt 54
          refine hrt 57
         refine hrt 61
        refine hrt 65
       refine hrt 69
      refine hrt 73
     refine hrt 77
    refine hrt 81
   refine hrt 85
  refine hrt 90
 refine hrt 94
theorem g_ref24_sign_ok (p0:Int):Ct Try.prog 87 [vI p0] (Qhg p0) (fun x=>vI x) (fun x=>[]):=by
 refine hfn [] Try.func87 <| hbr 3 [4] (hrt 3) <| ?_
 refine hbr 3 [6] (hrt 3) <| ?_
 refine hrt 3
theorem Qe5 (p0:Int) (p1:Int) (p2:Tapi_Q):Ct Try.prog 58 [vI p0,vI p1,.agg [vI p2.N,vI p2.D]] (Jy p0 p1 p2) (fun x=>vI x) (fun x=>[]):=by
 refine hfn [] Try.func58 <| hbr 4 [9] (hcl 2 [] (g_ref24_sign_ok p0) fun x3 _=>hrt 2) <| ?_
 refine hcl 4 [] (g_ref01_Of_ok (zw (0 - p0)) p1) fun x5 _=>hcl 4 [] (Qce p2 x5) fun x7 _=>hbr 1 [19] (hrt 3) <| ?_
 refine hcl 3 [] (Qce p2 x5) fun x11 _=>hbr 4 [26] (hrt 3) <| ?_
 refine hrt 3
theorem g_ref24_Threshold_ok (p0:Qb) (p1:Tapi_Shift) (p2:(Int × Int × Int × Int)) (p3:Tapi_Q):Ct Try.prog 22 [.agg [vI p0.Grain,eL false eTapi_Node p0.Nodes],.agg [vI p1.Node,vI p1.Row,vI p1.From,vI p1.To],.agg [vI p2.1,vI p2.2.1,vI p2.2.2.1,vI p2.2.2.2],.agg [vI p3.N,vI p3.D]] (Vg p0 p1 p2 p3) (fun x=>.tup [.agg [vI x.1.N,vI x.1.D],vB x.2]) (fun x=>[]):=by
 refine hfn [] Try.func22 <| hop 0 (fun _=>sgL false [] [] false gE) <| hcl 32 [] (g_ref24_Range_ok p0 p1) fun x1 _=>hbq 8 [44,45] (fun q4=>?_) (fun q4=>?_)
 ·refine hbr 4 [48,49] (hrt 9) <| ?_
  refine hbr 4 [51,52,53] (hrt 5) <| ?_
  refine hkb 7 [58] (Q4t q4) <| hcl 4 [] (g_ref24_Within_ok p0 p1 (Tapi_Q.mk x1.1 1)) fun x10 _=>hbr 2 [66,67] (hrt 13) <| ?_
  refine hcl 5 [] (Qe5 p2.2.2.1 p2.2.2.2 (Tapi_Q.mk x1.1 1)) fun x14 _=>hbr 2 [74,75] (hrt 5) <| ?_
  refine hrt 5
 refine hkb 15 [58] (Q4t q4) <| hcl 3 [] (g_ref01_Of_ok (zw ((zw (p3.N*p2.2.2.1)) - (zw (p3.D*p2.1)))) (zw ((zw (p3.D*p2.2.1)) - (zw (p3.N*p2.2.2.2))))) fun x19 _=>hcl 4 [] (g_ref24_Within_ok p0 p1 x19) fun x21 _=>hbr 2 [66,67] (hrt 13) <| ?_
 refine hcl 5 [] (Qe5 p2.2.2.1 p2.2.2.2 x19) fun x25 _=>hbr 2 [74,75] (hrt 5) <| ?_
 refine hrt 5
noncomputable abbrev o90_83 (p1:Tapi_Q):AObj:=oX true true 2 (.agg [vI p1.N,vI p1.D])
noncomputable abbrev o90_84 (p2:(Int × Int)):AObj:=oX true true 2 (.agg [.int .u8 p2.1,.int .u8 p2.2])
noncomputable abbrev Qhq (a6:Qe):AObj:=oX true false 9 (.agg [vI a6.n.Grain,eL false eTapi_Node a6.n.Nodes,z1 a6.e,vI a6.v,vI a6.value,vI a6.s.Node,vI a6.s.Row,vI a6.s.From,vI a6.s.To])
noncomputable abbrev e90_86 (x1:(Qe × Qe × Qe × Qe × Qe)):Nat×AV:=(26,.agg [vI x1.1.n.Grain,eL false eTapi_Node x1.1.n.Nodes,z1 x1.1.e,vI x1.1.v,vI x1.1.value,vI x1.1.s.Node,vI x1.1.s.Row,vI x1.1.s.From,vI x1.1.s.To,vI x1.2.1.n.Grain,eL false eTapi_Node x1.2.1.n.Nodes,z1 x1.2.1.e,vI x1.2.1.v,vI x1.2.1.value,vI x1.2.1.s.Node,vI x1.2.1.s.Row,vI x1.2.1.s.From,vI x1.2.1.s.To,vI x1.2.2.1.n.Grain,eL false eTapi_Node x1.2.2.1.n.Nodes,z1 x1.2.2.1.e,vI x1.2.2.1.v,vI x1.2.2.1.value,vI x1.2.2.1.s.Node,vI x1.2.2.1.s.Row,vI x1.2.2.1.s.From,vI x1.2.2.1.s.To,vI x1.2.2.2.1.n.Grain,eL false eTapi_Node x1.2.2.2.1.n.Nodes,z1 x1.2.2.2.1.e,vI x1.2.2.2.1.v,vI x1.2.2.2.1.value,vI x1.2.2.2.1.s.Node,vI x1.2.2.2.1.s.Row,vI x1.2.2.2.1.s.From,vI x1.2.2.2.1.s.To,vI x1.2.2.2.2.n.Grain,eL false eTapi_Node x1.2.2.2.2.n.Nodes,z1 x1.2.2.2.2.e,vI x1.2.2.2.2.v,vI x1.2.2.2.2.value,vI x1.2.2.2.2.s.Node,vI x1.2.2.2.2.s.Row,vI x1.2.2.2.2.s.From,vI x1.2.2.2.2.s.To])
noncomputable abbrev Qw1 (w0 w1 w2 w3 w4 w5 w6 w7 w8 w9 w10 w11 w12 w13 w14 w15 w16 w17 w18 w19 w20 w21 w22 w23 w24 w25:Nat×AV) (p3:Int) (x1:(Qe × Qe × Qe × Qe × Qe)) (a6:Qe):List (Nat×AV):=[(3,.int .i8 p3),(5,.ptr 0 0 0),(6,.ptr 1 0 0),(10,.ptr 2 0 0),w0,(12,.ptr 3 0 0),(e90_86 x1),w1,w2,w3,(88,vB true),w4,(18,.ptr 4 0 0),(91,.ptr 2 0 0),(92,.agg [vI a6.n.Grain,eL false eTapi_Node a6.n.Nodes]),(93,.ptr 2 0 2),(94,z1 a6.e),(95,.ptr 2 0 3),(96,vI a6.v),(97,.ptr 2 0 4),(98,vI a6.value),(99,.ptr 2 0 5),(100,.agg [vI a6.s.Node,vI a6.s.Row,vI a6.s.From,vI a6.s.To]),w5,w6,w7,w8,w9,(19,.ptr 5 0 0),w10,(21,.ptr 6 0 0),w11,(22,vI 4),w12,(107,vB true),w13,w14,w15,(111,vB true),(112,vB true),(113,.ptr 4 0 0),w16,(115,vB false),(116,vB false),(117,.ptr 4 0 0),w17,(119,.ptr 4 0 1),w18,(121,vB false),(122,vB false),(123,vB false),w19,(125,vB true),(127,.ptr 2 0 0),(128,.agg [vI a6.n.Grain,eL false eTapi_Node a6.n.Nodes]),(129,.ptr 2 0 5),(130,.agg [vI a6.s.Node,vI a6.s.Row,vI a6.s.From,vI a6.s.To]),w20,w21,w22,w23,w24,w25,(23,.ptr 7 0 0)]
noncomputable abbrev s90_88 (p3:Int):List (Nat×AV):=[(3,.int .i8 p3),(5,.ptr 0 0 0),(6,.ptr 1 0 0)]
noncomputable abbrev u90_89:St:=⟨[(8,vB false)],[],149⟩
theorem g_law24_SensitiveThresholds_ok (p0:Tharuspexlaw24_Story) (p1:Tapi_Q) (p2:(Int × Int)) (p3:Int):Ct Try.prog 4 [.agg [.int .u8 p0.N.Grain,eL false eTharuspexref05_Piece p0.N.Nodes,eL true (AV.int .u8) p0.N.Order,.int .u8 p0.C.What,.int .u8 p0.C.At,.int .u8 p0.C.Row,vI p0.C.N,.int .u8 p0.K.Which,.int .u8 p0.K.V.1,.int .u8 p0.K.V.2.1,.int .u8 p0.K.V.2.2.1,.int .u8 p0.K.V.2.2.2.1,.int .u8 p0.K.V.2.2.2.2.1,.int .u8 p0.K.V.2.2.2.2.2.1,.int .u8 p0.K.V.2.2.2.2.2.2.1,.int .u8 p0.K.V.2.2.2.2.2.2.2,.int .u8 p0.D.V,.int .u8 p0.D.Value,.int .u8 p0.D.Node,.int .u8 p0.D.Row,.int .u8 p0.D.From,.int .u8 p0.D.To,z1 p0.Raw,vI p0.V,vI p0.Value,vI p0.S.Node,vI p0.S.Row,vI p0.S.From,vI p0.S.To],.agg [vI p1.N,vI p1.D],.agg [.int .u8 p2.1,.int .u8 p2.2],.int .i8 p3] (V8 p0 p1 p2 p3) (fun x=>vB x) (fun x=>[]):=by
 refine hfn [] Try.func4 <| hop 0 (fun _=>sgL false [] [] false gE) <| hcl 4 [] (g_law24_Story_asks_ok (Tharuspexlaw24_Story.mk p0.N p0.C (Tharuspexref05_Known.mk p0.K.Which (p0.K.V.1,p0.K.V.2.1,p0.K.V.2.2.1,p0.K.V.2.2.2.1,p0.K.V.2.2.2.2.1,p0.K.V.2.2.2.2.2.1,p0.K.V.2.2.2.2.2.2.1,p0.K.V.2.2.2.2.2.2.2)) p0.D p0.Raw p0.V p0.Value p0.S)) fun x1 _=>hlp 1 (fun s3=>⟨(s90_88 p3)++[(e90_86 x1),(27,vI s3)],[(o90_83 p1),(o90_84 p2)],149⟩) (fun x=>match x with | .inl v=>(.ret,u90_89) | .inr v=>(.exit 0,⟨[],[],149⟩)) (wz [1,2]) (fun s3=>?_) (hsm (fun x185=>?_) (fun x186=>?_))
 ·refine hbr 1 [28] (?_) ?_
  ·refine hbd fun a6 q7=>hop 1 (fun _=>Qup (enc:=Ql6) (l:=([x1.1,x1.2.1,x1.2.2.1,x1.2.2.2.1,x1.2.2.2.2]:(List Qe))) (n:=s3) (a:=a6) (w:=9) (g:=true) (v:=.agg [vI a6.n.Grain,eL false eTapi_Node a6.n.Nodes,z1 a6.e,vI a6.v,vI a6.value,vI a6.s.Node,vI a6.s.Row,vI a6.s.From,vI a6.s.To]) kr (fun _=>rfl) kr q7 kr gE) <| hop 0 (fun _=>sgL false [] [] false gE) <| hcl 11 [] (g_ref24_Errors_ok a6.n a6.e a6.v a6.value a6.s) fun x8 _=>hbq 7 [43] (fun q11=>?_) (fun q11=>?_)
   ·refine hcl 11 [] (Qq6 a6.n a6.e a6.v a6.value a6.s) fun x12 _=>hcl 4 [] (g_ref01_Of_ok (zw (Int.tmod p3 9)) 1) fun x14 _=>hcl 7 [] (g_ref24_Within_ok a6.n a6.s x14) fun x16 _=>hbr 0 [64] (?_) ?_
    ·refine hcl 3 [] (Qtx (x12.1,x12.2.1,x12.2.2.1,x12.2.2.2) x14) fun x20 _=>hbr 8 [72] (?_) ?_
     ·refine hcl 14 [] (g_ref01_Of_ok (zw (Int.tmod p2.1 13)) (zw (1+(zw (Int.tmod p2.2 12))))) fun x24 _=>hlp 3 (fun s26=>⟨(s90_88 p3)++[(10,.ptr 2 0 0),(11,vI x8),(12,.ptr 3 0 0),(e90_86 x1),(27,vI s3),(86,.agg [vI p1.N,vI p1.D,vI x24.N,vI x24.D,vI x20.1.N,vI x20.1.D]),(87,vI s26)],[(o90_83 p1),(o90_84 p2),(Qhq a6),oX true true 4 (.agg [vI x12.1,vI x12.2.1,vI x12.2.2.1,vI x12.2.2.2])],149⟩) (fun x=>match x with | .inl v=>(.ret,u90_89) | .inr v=>(.exit 2,⟨(s90_88 p3)++[(e90_86 x1),(27,vI s3)],[(o90_83 p1),(o90_84 p2)],149⟩)) (wz [0,1,2,3]) (fun s26=>?_) (hsm (fun x69=>?_) (fun x70=>?_))
      ·refine hbr 1 [88] (?_) ?_
       ·refine hbd fun a29 q30=>hop 1 (fun _=>Qup (enc:=eTapi_Q) (l:=([p1,x24,x20.1]:(List Tapi_Q))) (n:=s26) (a:=a29) (w:=2) (g:=true) (v:=.agg [vI a29.N,vI a29.D]) kr (fun _=>rfl) kr q30 kr gE) <| hcl 13 [] (g_sensitive_Threshold_ok a6.n a6.e a6.v a6.value a6.s a29) fun x31 _=>hkb 11 [107] q11 <| hcl 2 [] (g_ref24_Small_ok a29) fun x34 _=>hbq 4 [111,112] (fun q37=>?_) (fun q37=>?_)
        ·refine hbr 4 [115,116] (?_) ?_
         ·refine hbr 16 [140,141] (hdx 6 (wz [])) <| ?_
          refine hbr 4 [144,145] (hdx 2 (wz [])) <| ?_
          refine hnx 3 (wz [0,1,2,3])
         refine hbr 7 [121,122,123] (?_) ?_
         ·refine hbr 9 [140,141] (hdx 6 (wz [])) <| ?_
          refine hbr 4 [144,145] (hdx 2 (wz [])) <| ?_
          refine hnx 3 (wz [0,1,2,3])
         refine hkb 3 [125] q37 <| hcl 8 [] (g_ref24_Threshold_ok a6.n a6.s (x12.1,x12.2.1,x12.2.2.1,x12.2.2.2) a29) fun x51 _=>hbt 7 (fun b53=>⟨(Qw1 (11,vI x8) (27,vI s3) (86,.agg [vI p1.N,vI p1.D,vI x24.N,vI x24.D,vI x20.1.N,vI x20.1.D]) (87,vI s26) (89,.agg [vI a29.N,vI a29.D]) (101,.agg [vI a29.N,vI a29.D]) (102,.tup [.agg [vI x31.1.N,vI x31.1.D],vI x31.2]) (90,.tup [.agg [vI x31.1.N,vI x31.1.D],vI x31.2]) (103,.agg [vI x31.1.N,vI x31.1.D]) (104,vI x31.2) (20,vI x31.2) (105,vI x8) (106,vI x8) (108,.agg [vI a29.N,vI a29.D]) (109,vI x34) (110,vI x34) (114,vI a29.N) (118,vI a29.N) (120,vI a29.D) (124,vI x34) (131,.agg [vI x12.1,vI x12.2.1,vI x12.2.2.1,vI x12.2.2.2]) (132,.agg [vI a29.N,vI a29.D]) (133,.tup [.agg [vI x51.1.N,vI x51.1.D],vB b53]) (126,.tup [.agg [vI x51.1.N,vI x51.1.D],vB b53]) (134,.agg [vI x51.1.N,vI x51.1.D]) (135,vB b53) p3 x1 a6)++[(24,vB b53),(136,vB b53)],[(o90_83 p1),(o90_84 p2),(Qhq a6),oX true true 4 (.agg [vI x12.1,vI x12.2.1,vI x12.2.2.1,vI x12.2.2.2]),oX true true 2 (.agg [vI a29.N,vI a29.D]),oX true true 2 (.agg [vI x31.1.N,vI x31.1.D]),oX true true 2 (.agg [vI 0,vI 0]),oX true true 2 (.agg [vI x51.1.N,vI x51.1.D])],149⟩) (fun _=>?_) (fun _=>?_)
         ·refine hbr 8 [140,141] (hdx 6 (wz [])) <| ?_
          refine hbr 4 [144,145] (hdx 2 (wz [])) <| ?_
          refine hnx 3 (wz [0,1,2,3])
         refine hbr 5 [140,141] (hdx 6 (wz [])) <| ?_
         refine hbr 4 [144,145] (hdx 2 (wz [])) <| ?_
         refine hnx 3 (wz [0,1,2,3])
        refine hkb 14 [125] q37 <| hbr 5 [140,141] (hdx 6 (wz [])) <| ?_
        refine hbr 4 [144,145] (hdx 2 (wz [])) <| ?_
        refine hnx 3 (wz [0,1,2,3])
       refine hdx 1 (wz [0,1])
      ·refine hdn 0
      refine hnx 2 (wz [0,1])
     refine hcl 12 [] (g_ref01_Of_ok (zw (Int.tmod p2.1 13)) (zw (1+(zw (Int.tmod p2.2 12))))) fun x71 _=>hlp 3 (fun s73=>⟨(s90_88 p3)++[(10,.ptr 2 0 0),(11,vI x8),(12,.ptr 3 0 0),(e90_86 x1),(27,vI s3),(86,.agg [vI p1.N,vI p1.D,vI x71.N,vI x71.D,vI p1.N,vI p1.D]),(87,vI s73)],[(o90_83 p1),(o90_84 p2),(Qhq a6),oX true true 4 (.agg [vI x12.1,vI x12.2.1,vI x12.2.2.1,vI x12.2.2.2])],149⟩) (fun x=>match x with | .inl v=>(.ret,u90_89) | .inr v=>(.exit 2,⟨(s90_88 p3)++[(e90_86 x1),(27,vI s3)],[(o90_83 p1),(o90_84 p2)],149⟩)) (wz [0,1,2,3]) (fun s73=>?_) (hsm (fun x116=>?_) (fun x117=>?_))
     ·refine hbr 1 [88] (?_) ?_
      ·refine hbd fun a76 q77=>hop 1 (fun _=>Qup (enc:=eTapi_Q) (l:=([p1,x71,p1]:(List Tapi_Q))) (n:=s73) (a:=a76) (w:=2) (g:=true) (v:=.agg [vI a76.N,vI a76.D]) kr (fun _=>rfl) kr q77 kr gE) <| hcl 13 [] (g_sensitive_Threshold_ok a6.n a6.e a6.v a6.value a6.s a76) fun x78 _=>hkb 11 [107] q11 <| hcl 2 [] (g_ref24_Small_ok a76) fun x81 _=>hbq 4 [111,112] (fun q84=>?_) (fun q84=>?_)
       ·refine hbr 4 [115,116] (?_) ?_
        ·refine hbr 16 [140,141] (hdx 6 (wz [])) <| ?_
         refine hbr 4 [144,145] (hdx 2 (wz [])) <| ?_
         refine hnx 3 (wz [0,1,2,3])
        refine hbr 7 [121,122,123] (?_) ?_
        ·refine hbr 9 [140,141] (hdx 6 (wz [])) <| ?_
         refine hbr 4 [144,145] (hdx 2 (wz [])) <| ?_
         refine hnx 3 (wz [0,1,2,3])
        refine hkb 3 [125] q84 <| hcl 8 [] (g_ref24_Threshold_ok a6.n a6.s (x12.1,x12.2.1,x12.2.2.1,x12.2.2.2) a76) fun x98 _=>hbt 7 (fun b100=>⟨(Qw1 (11,vI x8) (27,vI s3) (86,.agg [vI p1.N,vI p1.D,vI x71.N,vI x71.D,vI p1.N,vI p1.D]) (87,vI s73) (89,.agg [vI a76.N,vI a76.D]) (101,.agg [vI a76.N,vI a76.D]) (102,.tup [.agg [vI x78.1.N,vI x78.1.D],vI x78.2]) (90,.tup [.agg [vI x78.1.N,vI x78.1.D],vI x78.2]) (103,.agg [vI x78.1.N,vI x78.1.D]) (104,vI x78.2) (20,vI x78.2) (105,vI x8) (106,vI x8) (108,.agg [vI a76.N,vI a76.D]) (109,vI x81) (110,vI x81) (114,vI a76.N) (118,vI a76.N) (120,vI a76.D) (124,vI x81) (131,.agg [vI x12.1,vI x12.2.1,vI x12.2.2.1,vI x12.2.2.2]) (132,.agg [vI a76.N,vI a76.D]) (133,.tup [.agg [vI x98.1.N,vI x98.1.D],vB b100]) (126,.tup [.agg [vI x98.1.N,vI x98.1.D],vB b100]) (134,.agg [vI x98.1.N,vI x98.1.D]) (135,vB b100) p3 x1 a6)++[(24,vB b100),(136,vB b100)],[(o90_83 p1),(o90_84 p2),(Qhq a6),oX true true 4 (.agg [vI x12.1,vI x12.2.1,vI x12.2.2.1,vI x12.2.2.2]),oX true true 2 (.agg [vI a76.N,vI a76.D]),oX true true 2 (.agg [vI x78.1.N,vI x78.1.D]),oX true true 2 (.agg [vI 0,vI 0]),oX true true 2 (.agg [vI x98.1.N,vI x98.1.D])],149⟩) (fun _=>?_) (fun _=>?_)
        ·refine hbr 8 [140,141] (hdx 6 (wz [])) <| ?_
         refine hbr 4 [144,145] (hdx 2 (wz [])) <| ?_
         refine hnx 3 (wz [0,1,2,3])
        refine hbr 5 [140,141] (hdx 6 (wz [])) <| ?_
        refine hbr 4 [144,145] (hdx 2 (wz [])) <| ?_
        refine hnx 3 (wz [0,1,2,3])
       refine hkb 14 [125] q84 <| hbr 5 [140,141] (hdx 6 (wz [])) <| ?_
       refine hbr 4 [144,145] (hdx 2 (wz [])) <| ?_
       refine hnx 3 (wz [0,1,2,3])
      refine hdx 1 (wz [0,1])
     ·refine hdn 0
     refine hnx 2 (wz [0,1])
    refine hcl 12 [] (g_ref01_Of_ok (zw (Int.tmod p2.1 13)) (zw (1+(zw (Int.tmod p2.2 12))))) fun x118 _=>hlp 3 (fun s120=>⟨(s90_88 p3)++[(10,.ptr 2 0 0),(11,vI x8),(12,.ptr 3 0 0),(e90_86 x1),(27,vI s3),(86,.agg [vI p1.N,vI p1.D,vI x118.N,vI x118.D,vI p1.N,vI p1.D]),(87,vI s120)],[(o90_83 p1),(o90_84 p2),(Qhq a6),oX true true 4 (.agg [vI x12.1,vI x12.2.1,vI x12.2.2.1,vI x12.2.2.2])],149⟩) (fun x=>match x with | .inl v=>(.ret,u90_89) | .inr v=>(.exit 2,⟨(s90_88 p3)++[(e90_86 x1),(27,vI s3)],[(o90_83 p1),(o90_84 p2)],149⟩)) (wz [0,1,2,3]) (fun s120=>?_) (hsm (fun x163=>?_) (fun x164=>?_))
    ·refine hbr 1 [88] (?_) ?_
     ·refine hbd fun a123 q124=>hop 1 (fun _=>Qup (enc:=eTapi_Q) (l:=([p1,x118,p1]:(List Tapi_Q))) (n:=s120) (a:=a123) (w:=2) (g:=true) (v:=.agg [vI a123.N,vI a123.D]) kr (fun _=>rfl) kr q124 kr gE) <| hcl 13 [] (g_sensitive_Threshold_ok a6.n a6.e a6.v a6.value a6.s a123) fun x125 _=>hkb 11 [107] q11 <| hcl 2 [] (g_ref24_Small_ok a123) fun x128 _=>hbq 4 [111,112] (fun q131=>?_) (fun q131=>?_)
      ·refine hbr 4 [115,116] (?_) ?_
       ·refine hbr 16 [140,141] (hdx 6 (wz [])) <| ?_
        refine hbr 4 [144,145] (hdx 2 (wz [])) <| ?_
        refine hnx 3 (wz [0,1,2,3])
       refine hbr 7 [121,122,123] (?_) ?_
       ·refine hbr 9 [140,141] (hdx 6 (wz [])) <| ?_
        refine hbr 4 [144,145] (hdx 2 (wz [])) <| ?_
        refine hnx 3 (wz [0,1,2,3])
       refine hkb 3 [125] q131 <| hcl 8 [] (g_ref24_Threshold_ok a6.n a6.s (x12.1,x12.2.1,x12.2.2.1,x12.2.2.2) a123) fun x145 _=>hbt 7 (fun b147=>⟨(Qw1 (11,vI x8) (27,vI s3) (86,.agg [vI p1.N,vI p1.D,vI x118.N,vI x118.D,vI p1.N,vI p1.D]) (87,vI s120) (89,.agg [vI a123.N,vI a123.D]) (101,.agg [vI a123.N,vI a123.D]) (102,.tup [.agg [vI x125.1.N,vI x125.1.D],vI x125.2]) (90,.tup [.agg [vI x125.1.N,vI x125.1.D],vI x125.2]) (103,.agg [vI x125.1.N,vI x125.1.D]) (104,vI x125.2) (20,vI x125.2) (105,vI x8) (106,vI x8) (108,.agg [vI a123.N,vI a123.D]) (109,vI x128) (110,vI x128) (114,vI a123.N) (118,vI a123.N) (120,vI a123.D) (124,vI x128) (131,.agg [vI x12.1,vI x12.2.1,vI x12.2.2.1,vI x12.2.2.2]) (132,.agg [vI a123.N,vI a123.D]) (133,.tup [.agg [vI x145.1.N,vI x145.1.D],vB b147]) (126,.tup [.agg [vI x145.1.N,vI x145.1.D],vB b147]) (134,.agg [vI x145.1.N,vI x145.1.D]) (135,vB b147) p3 x1 a6)++[(24,vB b147),(136,vB b147)],[(o90_83 p1),(o90_84 p2),(Qhq a6),oX true true 4 (.agg [vI x12.1,vI x12.2.1,vI x12.2.2.1,vI x12.2.2.2]),oX true true 2 (.agg [vI a123.N,vI a123.D]),oX true true 2 (.agg [vI x125.1.N,vI x125.1.D]),oX true true 2 (.agg [vI 0,vI 0]),oX true true 2 (.agg [vI x145.1.N,vI x145.1.D])],149⟩) (fun _=>?_) (fun _=>?_)
       ·refine hbr 8 [140,141] (hdx 6 (wz [])) <| ?_
        refine hbr 4 [144,145] (hdx 2 (wz [])) <| ?_
        refine hnx 3 (wz [0,1,2,3])
       refine hbr 5 [140,141] (hdx 6 (wz [])) <| ?_
       refine hbr 4 [144,145] (hdx 2 (wz [])) <| ?_
       refine hnx 3 (wz [0,1,2,3])
      refine hkb 14 [125] q131 <| hbr 5 [140,141] (hdx 6 (wz [])) <| ?_
      refine hbr 4 [144,145] (hdx 2 (wz [])) <| ?_
      refine hnx 3 (wz [0,1,2,3])
     refine hdx 1 (wz [0,1])
    ·refine hdn 0
    refine hnx 2 (wz [0,1])
   refine hcl 12 [] (g_ref01_Of_ok (zw (Int.tmod p2.1 13)) (zw (1+(zw (Int.tmod p2.2 12))))) fun x165 _=>hlp 3 (fun s167=>⟨(s90_88 p3)++[(10,.ptr 2 0 0),(11,vI x8),(12,.ptr 3 0 0),(e90_86 x1),(27,vI s3),(86,.agg [vI p1.N,vI p1.D,vI x165.N,vI x165.D,vI p1.N,vI p1.D]),(87,vI s167)],[(o90_83 p1),(o90_84 p2),(Qhq a6),oX true true 4 (.agg [vI 0,vI 0,vI 0,vI 0])],149⟩) (fun x=>match x with | .inl v=>(.ret,u90_89) | .inr v=>(.exit 2,⟨(s90_88 p3)++[(e90_86 x1),(27,vI s3)],[(o90_83 p1),(o90_84 p2)],149⟩)) (wz [0,1,2,3]) (fun s167=>?_) (hsm (fun x182=>?_) (fun x183=>?_))
   ·refine hbr 1 [88] (?_) ?_
    ·refine hbd fun a170 q171=>hop 1 (fun _=>Qup (enc:=eTapi_Q) (l:=([p1,x165,p1]:(List Tapi_Q))) (n:=s167) (a:=a170) (w:=2) (g:=true) (v:=.agg [vI a170.N,vI a170.D]) kr (fun _=>rfl) kr q171 kr gE) <| hcl 13 [] (g_sensitive_Threshold_ok a6.n a6.e a6.v a6.value a6.s a170) fun x172 _=>hkb 11 [107] q11 <| hkb 4 [111,112] q11 <| hkb 14 [125] q11 <| hbr 5 [140,141] (hdx 6 (wz [])) <| ?_
     refine hbr 4 [144,145] (hdx 2 (wz [])) <| ?_
     refine hnx 3 (wz [0,1,2,3])
    refine hdx 1 (wz [0,1])
   ·refine hdn 0
   refine hnx 2 (wz [0,1])
  refine hdx 1 (wz [])
 ·refine hrt 0
 refine hcl 0 [] (Qps ) fun x187 _=>hrt 2
end
end Go.Ab
namespace Go.Ab
open Go
theorem Qji {σ ρ:Type} {body:σ→Option (Qk σ ρ)} (I:σ→Prop) (m:σ→Nat) (Q:ρ→Prop)
  (step:∀s,I s→(∃s',body s=some (.next s')∧I s'∧m s' < m s)∨(∃r,body s=some (.done r)∧Q r)) :
  ∀(n:Nat) (s:σ),I s→m s < n→∃r,Qd n body s=some r∧Q r
 | 0,s,_,h=>by omega
 | n+1,s,hI,h=>by
  unfold Qd
  rcases step s hI with ⟨s',h1,h2,h3⟩ | ⟨r,h1,h2⟩
  ·rw [h1]
   exact Qji I m Q step n s' h2 (by omega)
  ·rw [h1]
   exact ⟨r,rfl,h2⟩
theorem Qbx {σ ρ:Type} {body:σ→Option (Qk σ ρ)} (I:σ→Prop) (m:σ→Nat) (r:ρ)
  (step:∀s,I s→(∃s',body s=some (.next s')∧I s'∧m s' < m s)∨body s=some (.done r)) (s:σ) (hI:I s) (hm:m s < 1152921504606846976):Qd fuel body s=some r:=by
 obtain ⟨r',h1,h2⟩:=Qji I m (fun x=>x=r) (fun s hs=>(step s hs).imp id fun h=>⟨r,h,rfl⟩) fuel s hI hm
 rw [h1,h2]
theorem Z2 {σ ρ:Type} {body:σ→Option (Qk σ ρ)} (I:σ→Prop) (m:σ→Nat) (Q:ρ→Prop)
  (step:∀s,I s→(∃s',body s=some (.next s')∧I s'∧m s' < m s)∨(∃r,body s=some (.done r)∧Q r)) (s:σ) (hI:I s) (hm:m s < 1152921504606846976):∃r,Qd fuel body s=some r∧Q r :=
 Qji I m Q step fuel s hI hm
theorem Qvj {σ ρ:Type} {body:σ→Option (Qk σ ρ)} (f:Nat → σ) (n:Nat) (r:ρ) (step:∀k,k < n→body (f k)=some (.next (f (k+1)))) (done:body (f n)=some (.done r)) (hn:n < 1152921504606846976) :
  Qd fuel body (f 0)=some r:=by
 have key:∀(j N k:Nat),k+j=n→j < N→Qd N body (f k)=some r:=by
  intro j
  induction j with
  | zero =>
   intro N k hk hN
   obtain ⟨N,rfl⟩:∃M,N=M+1:=⟨N - 1,by omega⟩
   have:k=n:=by omega
   subst this
   simp [Qd,done]
  | succ j ih =>
   intro N k hk hN
   obtain ⟨N,rfl⟩:∃M,N=M+1:=⟨N - 1,by omega⟩
   simp only [Qd,step k (by omega)]
   exact ih N (k+1) (by omega) (by omega)
 exact key n fuel 0 (by omega) hn
theorem Ze {σ ρ:Type} {body:σ→Option (Qk σ ρ)} {s0:σ} (f:Nat → σ) (n:Nat) (r:ρ) (h0:f 0=s0) (step:∀k,k < n→body (f k)=some (.next (f (k+1)))) (done:body (f n)=some (.done r)) (hn:n < 1152921504606846976) :
  Qd fuel body s0=some r:=by rw [←h0]; exact Qvj f n r step done hn
theorem w64 {n:Int} (h:-9223372036854775808≤n∧n≤9223372036854775807):zw n=n:=by show IntKind.wrap .i64 n=n; rw [IntKind.wrap_i64]; omega
theorem Qn {α:Type} {l:List α} {k:Nat} (h:k < l.length):lkI l (k:Int)=some l[k]:=by
 unfold lkI
 rw [if_neg (by omega),Int.toNat_natCast,List.getElem?_eq_getElem h]
theorem J0 {a b:Int} (h:0≤a):Int.tdiv a b=a / b:=Int.tdiv_eq_ediv_of_nonneg h
theorem Xr {a b:Int} (h:0≤a):Int.tmod a b=a % b:=Int.tmod_eq_emod_of_nonneg h
def dgs (n:Nat):List Int:=if h:n=0 then [] else ((n % 10000:Nat):Int)::dgs (n / 10000)
termination_by n
decreasing_by omega
def Qh:List Int→Nat
 | []=>0
 | x::l=>x.toNat + 10000*Qh l
def Xh (l:List Int):Prop:=∀x∈l,0≤x∧x < 10000
theorem X2:dgs 0=[]:=by rw [dgs]; simp
theorem Qcm {n:Nat} (h:n≠0):dgs n=((n % 10000:Nat):Int)::dgs (n / 10000):=by rw [dgs]; simp [h]
theorem Zs (n:Nat):Qh (dgs n)=n:=by
 induction n using Nat.strongRecOn with
 | _ n ih =>
  by_cases h:n=0
  ·subst h; rw [X2]; rfl
  ·rw [Qcm h]
   simp only [Qh]
   rw [ih (n / 10000) (by omega)]
   omega
theorem Z5 (n:Nat):Xh (dgs n):=by
 induction n using Nat.strongRecOn with
 | _ n ih =>
  by_cases h:n=0
  ·subst h; rw [X2]; intro x hx; cases hx
  ·rw [Qcm h]
   intro x hx
   rcases List.mem_cons.1 hx with rfl | hx
   ·omega
   ·exact ih (n / 10000) (by omega) x hx
theorem Qg3 {n:Nat}:dgs n=[]↔n=0:=by
 constructor
 ·intro h
  have:=Zs n
  rw [h] at this; exact this.symm
 ·intro h; subst h; exact X2
theorem Qfy {x:Int} {l:List Int}:Xh (x::l)↔(0≤x∧x < 10000)∧Xh l:=by simp [Xh]
theorem Qkx:Xh []:=fun x h=>by cases h
theorem Qo3 {a b:List Int}:Xh (a++b)↔Xh a∧Xh b:=by
 constructor
 ·exact fun h=>⟨fun x hx=>h x (List.mem_append_left _ hx),fun x hx=>h x (List.mem_append_right _ hx)⟩
 ·rintro ⟨h1,h2⟩ x hx
  rcases List.mem_append.1 hx with h | h
  ·exact h1 x h
  ·exact h2 x h
theorem Qja (a b:List Int):Qh (a++b)=Qh a+10000^a.length*Qh b:=by
 induction a with
 | nil=>simp [Qh]
 | cons x a ih =>
  simp only [List.cons_append,Qh,ih,List.length_cons,Nat.pow_succ]
  rw [Nat.mul_add,Nat.add_assoc,←Nat.mul_assoc,Nat.mul_comm 10000 (10000^a.length)]
theorem Qaf {l:List Int} (h:Xh l):Qh l < 10000^l.length:=by
 induction l with
 | nil=>simp [Qh]
 | cons x l ih =>
  rw [Qfy] at h
  have:=ih h.2
  simp only [Qh,List.length_cons,Nat.pow_succ]
  omega
def Qek (l:List Int):Prop:=l.getLast?≠some 0
theorem Quh {l:List Int} (h:Xh l) (hn:Qek l):dgs (Qh l)=l:=by
 induction l with
 | nil=>exact X2
 | cons x l ih =>
  rw [Qfy] at h
  have hn':Qek l:=by
   unfold Qek at *
   cases l with
   | nil=>simp
   | cons y l=>simpa [List.getLast?_cons_cons] using hn
  have hne:Qh (x::l)≠0:=by
   simp only [Qh]
   intro h0
   have hx:x=0:=by omega
   have hl:Qh l=0:=by omega
   have:=ih h.2 hn'
   rw [hl,X2] at this
   subst this
   subst hx
   simp [Qek] at hn
  rw [Qcm hne]
  simp only [Qh] at *
  rw [show (x.toNat + 10000*Qh l) / 10000=Qh l by omega,ih h.2 hn']
  congr 1
  omega
theorem Qv6 (n:Nat):Qek (dgs n):=by
 induction n using Nat.strongRecOn with
 | _ n ih =>
  by_cases h:n=0
  ·subst h; rw [X2]; simp [Qek]
  ·rw [Qcm h]
   have:=ih (n / 10000) (by omega)
   unfold Qek at *
   cases hd:dgs (n / 10000) with
   | nil =>
    rw [Qg3] at hd
    intro h1
    simp only [List.getLast?_singleton,Option.some.injEq] at h1
    omega
   | cons y l =>
    rw [hd] at this
    simpa [List.getLast?_cons_cons] using this
theorem Xd {n K:Nat} (h:n < 10000^K):(dgs n).length≤K:=by
 induction K generalizing n with
 | zero=>simp at h; subst h; rw [X2]; simp
 | succ K ih =>
  by_cases h0:n=0
  ·subst h0; rw [X2]; simp
  ·rw [Qcm h0]
   simp only [List.length_cons]
   have:=ih (n:=n / 10000) (by rw [Nat.pow_succ] at h; omega)
   omega
theorem Qhh (n:Nat):n < 10000^(dgs n).length:=by
 have:=Qaf (Z5 n)
 rwa [Zs] at this
theorem Q1b {n:Nat} (h:n≠0):10000^((dgs n).length - 1)≤n:=by
 induction n using Nat.strongRecOn with
 | _ n ih =>
  rw [Qcm h]
  simp only [List.length_cons,Nat.add_sub_cancel]
  by_cases h0:n / 10000=0
  ·rw [h0,X2]; simp; omega
  ·have h1:=ih (n / 10000) (by omega) h0
   have:(dgs (n / 10000)).length≠0:=by rw [Ne,List.length_eq_zero_iff,Qg3]; exact h0
   obtain ⟨k,hk⟩:∃k,(dgs (n / 10000)).length=k+1:=⟨(dgs (n / 10000)).length - 1,by omega⟩
   rw [hk] at h1 ⊢
   simp only [Nat.add_sub_cancel] at h1
   rw [Nat.pow_succ]
   omega
theorem Qax {l:List Int} (h:Xh l) {k:Nat} (hk:k < l.length):0≤l[k]∧l[k] < 10000:=h _ (List.getElem_mem hk)
theorem Qcr {l:List Int} {k:Nat} (hk:k < l.length):Qh (l.take (k+1))=Qh (l.take k)+10000^k*l[k].toNat := by
 rw [List.take_succ_eq_append_getElem hk,Qja]
 simp [Qh,Nat.min_eq_left (Nat.le_of_lt hk)]
theorem Qby {l:List Int} {k:Nat} (hk:k < l.length):Qh (l.drop k)=l[k].toNat + 10000*Qh (l.drop (k+1)):=by
 rw [List.drop_eq_getElem_cons hk]; rfl
theorem Qiu {l:List Int} (h:Xh l) (k:Nat):Xh (l.take k):=fun x hx=>h x (List.mem_of_mem_take hx)
theorem Qb0 {l:List Int} (h:Xh l) (k:Nat):Xh (l.drop k):=fun x hx=>h x (List.mem_of_mem_drop hx)
end Go.Ab
namespace Go.Ab
open Go
set_option maxRecDepth 100000
set_option maxHeartbeats 400000
def msk:Nat → (Nat → Bool)→Nat
 | 0,_=>0
 | n+1,p=>msk n p ||| (if p n then 2^n else 0)
theorem Q5e (n:Nat) (p:Nat → Bool) (i:Nat):(msk n p).testBit i=(decide (i < n) && p i):=by
 induction n with
 | zero=>simp [msk]
 | succ n ih =>
  unfold msk
  rw [Nat.testBit_or,ih]
  by_cases h:i=n
  ·subst h
   cases hp:p i <;> simp [hp]
  ·have e:decide (i < n+1)=decide (i < n):=by by_cases h2:i < n <;> simp [h2] <;> omega
   rw [e]
   cases hp:p n
   ·simp
   ·simp only [if_true,Nat.testBit_two_pow]
    have e2:¬ n=i:=fun e=>h e.symm
    simp [e2]
theorem Yx {n:Nat} (h:n < 18446744073709551616):zv (n:Int)=(n:Int):=by
 simp [IntKind.wrap,IntKind.bits,IntKind.signed]; omega
theorem Qes {a:Nat} (h:a < 18446744073709551616):(zb (a:Int)).toNat = a:=by
 show (BitVec.ofInt IntKind.u64.bits (a:Int)).toNat = a
 rw [BitVec.ofInt_natCast,BitVec.toNat_ofNat]
 exact Nat.mod_eq_of_lt h
theorem Q29 {a k:Nat}:Int.fdiv (a:Int) ((2:Int)^k)=((a / 2^k:Nat):Int):=by
 rw [Int.fdiv_eq_ediv_of_nonneg _ (by exact_mod_cast Nat.zero_le (2^k))]
 simp
theorem Qzw {a k:Nat} (ha:a < 18446744073709551616) (hk:k < 64) :
  zv (zb (Int.fdiv (a:Int) (2^min (Int.toNat (k:Int)) (IntKind.bits .u64))) &&& zb 1).toNat = ((a.testBit k).toNat : Int):=by
 have hb:IntKind.bits .u64=64:=rfl
 have e0:min (Int.toNat (k:Int)) (IntKind.bits .u64)=k:=by rw [hb,Int.toNat_natCast]; omega
 rw [e0,Q29]
 have h1:a / 2^k < 18446744073709551616:=Nat.lt_of_le_of_lt (Nat.div_le_self _ _) ha
 have e1:(zb ((a / 2^k:Nat):Int) &&& zb 1).toNat = (a / 2^k) % 2:=by
  rw [BitVec.toNat_and,Qes h1,show (zb 1).toNat = 1 from rfl,Nat.and_one_is_mod]
 rw [e1,Yx (by omega)]
 have e2:a.testBit k=((a / 2^k) % 2==1):=by rw [Nat.testBit_eq_decide_div_mod_eq]; rfl
 rw [e2]
 rcases Nat.mod_two_eq_zero_or_one (a / 2^k) with h | h <;> rw [h] <;> rfl
def cnt:Nat → (Nat → Bool)→Nat
 | 0,_=>0
 | n+1,p=>cnt n p+(p n).toNat
theorem Q0n {n:Nat} {p q:Nat → Bool} (h:∀i,i < n→p i=q i):cnt n p=cnt n q:=by
 induction n with
 | zero=>rfl
 | succ n ih=>simp only [cnt]; rw [ih fun i hi=>h i (by omega),h n (by omega)]
theorem Q7c (n:Nat) (p:Nat → Bool):cnt n p≤n:=by
 induction n with
 | zero=>exact Nat.le_refl _
 | succ n ih =>
  simp only [cnt]; have:(p n).toNat ≤ 1:=by cases p n <;> decide
  omega
theorem Q3i {n:Nat} {p q:Nat → Bool} (h:∀i,i < n→p i=true→q i=true):cnt n p≤cnt n q:=by
 induction n with
 | zero=>exact Nat.le_refl _
 | succ n ih =>
  simp only [cnt]
  have h1:=ih fun i hi=>h i (by omega)
  have h2:=h n (by omega)
  cases hp:p n with
  | false =>
   have:false.toNat = 0:=rfl
   omega
  | true=>rw [h2 hp]; omega
theorem Q5m {n:Nat} {p:Nat → Bool} {i:Nat} (hi:i < n) (h:p i=true):0 < cnt n p:=by
 induction n with
 | zero=>omega
 | succ n ih =>
  simp only [cnt]
  by_cases e:i=n
  ·subst e; rw [h]; show 0 < _+1; omega
  ·have:=ih (by omega); omega
theorem Q6f {n v:Nat} {p:Nat → Bool} (hv:v < n) (h:p v=true):cnt n (fun i=>p i && !decide (v=i))+1=cnt n p:=by
 induction n with
 | zero=>omega
 | succ n ih =>
  simp only [cnt]
  by_cases e:v=n
  ·subst e
   rw [Q0n (n:=v) (q:=p) fun i hi=>by simp; intro _; omega,h]
   simp
  ·have:=ih (by omega)
   have e2:(p n && !decide (v=n))=p n:=by simp; intro _; exact e
   rw [e2]; omega
theorem Qmd (k:Nat):(0:Int)≤(k:Int):=Int.natCast_nonneg k
theorem Qu5 {k:Nat} (h:k < 9223372036854775807):zw ((k:Int)+1)=((k+1:Nat):Int):=by rw [w64 (by omega)]; omega
theorem Qpf {τ ρ σ:Type} {n k0:Nat} (hk:k0≤n) (hn:n < 1152921504606846976) (mkS:Int→τ→σ) {body:σ→Option (Qk σ ρ)} (I:Nat → τ→Prop) (Q:ρ→Prop)
  (step:∀(k:Nat) (t:τ),k0≤k→k < n→I k t→(∃t',body (mkS (k:Int) t)=some (.next (mkS (zw ((k:Int)+1)) t'))∧I (k+1) t')∨(∃r,body (mkS (k:Int) t)=some (.done r)∧Q r))
  (done:∀t,I n t→∃r,body (mkS (n:Int) t)=some (.done r)∧Q r) (t0:τ) (h0:I k0 t0):∃r,Qd fuel body (mkS (k0:Int) t0)=some r∧Q r:=by
 have key:∀(j N k:Nat) (t:τ),k+j=n→k0≤k→j < N→I k t→∃r,Qd N body (mkS (k:Int) t)=some r∧Q r:=by
  intro j
  induction j with
  | zero =>
   intro N k t e hk hN hI
   obtain ⟨N,rfl⟩:∃M,N=M+1:=⟨N - 1,by omega⟩
   have:k=n:=by omega
   subst this
   obtain ⟨r,b1,b2⟩:=done t hI
   simp only [Qd,b1]
   exact ⟨r,rfl,b2⟩
  | succ j ih =>
   intro N k t e hk hN hI
   obtain ⟨N,rfl⟩:∃M,N=M+1:=⟨N - 1,by omega⟩
   rcases step k t hk (by omega) hI with ⟨t',b1,b2⟩ | ⟨r,b1,b2⟩
   ·rw [Qu5 (by omega)] at b1
    simp only [Qd,b1]
    exact ih N (k+1) t' (by omega) (by omega) (by omega) b2
   ·simp only [Qd,b1]
    exact ⟨r,rfl,b2⟩
 exact key (n - k0) fuel k0 t0 (by omega) (Nat.le_refl _) (by show n - k0 < 1152921504606846976; omega) h0
theorem Kd {τ ρ σ:Type} {n k0:Nat} (hk:k0≤n) (hn:n < 1152921504606846976) (mkS:Int→τ→σ) {body:σ→Option (Qk σ ρ)} (T:Nat → τ) (r:ρ)
  (step:∀(k:Nat),k0≤k→k < n→body (mkS (k:Int) (T k))=some (.next (mkS (zw ((k:Int)+1)) (T (k+1)))))
  (done:body (mkS (n:Int) (T n))=some (.done r)):Qd fuel body (mkS (k0:Int) (T k0))=some r:=by
 obtain ⟨r',h1,h2⟩:=Qpf hk hn mkS (body:=body) (fun k t=>t=T k) (fun x=>x=r) (fun k t a b c=>.inl ⟨T (k+1),by rw [c]; exact step k a b,rfl⟩) (fun t h=>⟨r,by rw [h]; exact done,rfl⟩) (T k0) rfl
 rw [h1,h2]
theorem dlt {k n:Nat} (h:k < n):decide ((k:Int) < (n:Int))=true:=decide_eq_true (by omega)
theorem nlt (n:Nat):¬ (decide ((n:Int) < (n:Int))=true):=by simp
def nI (l:List Nat):List Int:=l.map fun (k:Nat)=>(k:Int)
theorem Qa4 (l:List Nat):(nI l).length=l.length:=by simp [nI]
theorem Q4v {l:List Nat} {k:Nat} (h:k < l.length):lkI (nI l) (k:Int)=some (l[k]:Int):=by rw [Qn (by rwa [Qa4])]; simp [nI]
end Go.Ab
namespace Go.Ab
open Go
set_option maxRecDepth 100000
set_option maxHeartbeats 400000
def Qc {α:Type} (n:Nat) (F:Nat → α):List α:=(List.range n).map F
theorem Qr {α:Type} {n:Nat} {F:Nat → α}:(Qc n F).length=n:=by simp [Qc]
theorem Qv {α:Type} {n:Nat} {F:Nat → α} {k:Nat} (h:k < n):lkI (Qc n F) (k:Int)=some (F k):=by
 rw [Qn (by rw [Qr]; exact h)]; simp [Qc]
theorem Qu {α:Type} {n:Nat} {F G:Nat → α} (h:∀k,k < n→F k=G k):Qc n F=Qc n G:=by
 unfold Qc
 apply List.map_congr_left
 intro t ht
 exact h t (by simpa using ht)
theorem Yf {α:Type} {n:Nat} {F:Nat → α} {k:Nat} {x:α}:(Qc n F).set k x=Qc n (fun s=>if s=k then x else F s):=by
 apply List.ext_getElem?
 intro s
 rw [List.getElem?_set]
 simp only [Qc,List.getElem?_map,List.length_map,List.length_range]
 by_cases e:k=s
 ·subst e
  rw [if_pos rfl]
  by_cases hk:k < n
  ·rw [if_pos hk,List.getElem?_range hk]; simp
  ·rw [if_neg hk,List.getElem?_eq_none (by simpa using hk)]; rfl
 ·rw [if_neg e]
  by_cases hs:s < n
  ·rw [List.getElem?_range hs]; simp only [Option.map_some]; rw [if_neg (Ne.symm e)]
  ·rw [List.getElem?_eq_none (by simpa using hs)]; rfl
theorem Qdu {α:Type} (n:Nat) (x:α):List.replicate n x=Qc n (fun _=>x):=by
 apply List.ext_getElem?
 intro s
 rw [List.getElem?_replicate]
 by_cases hs:s < n
 ·rw [if_pos hs]; simp [Qc,List.getElem?_range hs]
 ·rw [if_neg hs,List.getElem?_eq_none (by rw [Qr]; omega)]
theorem Qd8 {α:Type} {n:Nat} {F:Nat → α}:Qc n F++[F n]=Qc (n+1) F:=by
 unfold Qc; rw [List.range_succ]; simp
def Xm {α:Type} (w:Nat → α) (i:Nat) (x:α):Nat → α:=fun s=>if s=i then x else w s
theorem Yi {α:Type} {w:Nat → α} {i:Nat} {x:α}:Xm w i x i=x:=by simp [Xm]
theorem Kg {α:Type} {w:Nat → α} {i j:Nat} {x:α} (h:j≠i):Xm w i x j=w j:=by simp [Xm,h]
def Ql:Nat → (Nat → Int)→Int
 | 0,_=>0
 | n+1,f=>Ql n f+f n
theorem Y9 {n:Nat} {f g:Nat → Int} (h:∀k,k < n→f k=g k):Ql n f=Ql n g:=by
 induction n with
 | zero=>rfl
 | succ n ih=>simp only [Ql]; rw [ih (fun k hk=>h k (by omega)),h n (by omega)]
theorem Qv8 {n:Nat} {f g:Nat → Int}:Ql n (fun k=>f k+g k)=Ql n f+Ql n g:=by
 induction n with
 | zero=>rfl
 | succ n ih=>simp only [Ql,ih]; omega
theorem Qfv {n:Nat}:Ql n (fun _=>0)=0:=by
 induction n with
 | zero=>rfl
 | succ n ih=>simp only [Ql,ih]; rfl
theorem Vw {n:Nat} {f:Nat → Int} (h:∀k,k < n→0≤f k):0≤Ql n f:=by
 induction n with
 | zero=>exact Int.le_refl 0
 | succ n ih=>simp only [Ql]; have:=ih (fun k hk=>h k (by omega)); have:=h n (by omega); omega
theorem Q3y {n k:Nat} {c:Int} (h:k < n):Ql n (fun x=>if k=x then c else 0)=c:=by
 induction n with
 | zero=>omega
 | succ n ih =>
  simp only [Ql]
  by_cases e:k=n
  ·subst e
   rw [if_pos rfl,Y9 (g:=fun _=>0) (fun x hx=>if_neg (by omega)),Qfv]; omega
  ·rw [if_neg e,ih (by omega)]; omega
theorem Qk6 {a b:Nat} {f:Nat → Int}:Ql (a+b) f=Ql a f+Ql b (fun k=>f (a+k)):=by
 induction b with
 | zero=>simp [Ql]
 | succ b ih=>rw [←Nat.add_assoc]; simp only [Ql,ih]; omega
def prodTo:Nat → (Nat → Nat)→Nat
 | 0,_=>1
 | n+1,f=>prodTo n f*f n
theorem Vk {n K:Nat} {f:Nat → Nat} (h:∀k,k < n→f k≤K):prodTo n f≤K^n:=by
 induction n with
 | zero=>simp [prodTo]
 | succ n ih=>simp only [prodTo,Nat.pow_succ]; exact Nat.mul_le_mul (ih fun k hk=>h k (by omega)) (h n (by omega))
structure NF where
 n:Nat
 g:Nat
 card:Nat → Nat
 par:Nat → List Nat
 W:Nat → Nat → Nat → Nat
def lprod (f:Nat → Nat) (l:List Nat):Nat := l.foldl (fun r p=>r*f p) 1
def NF.rows (D:NF) (v:Nat):Nat := lprod D.card (D.par v)
def NF.node (D:NF) (v:Nat):Tapi_Node:=⟨D.card v,(D.par v).map (fun (p:Nat)=>(p:Int)),Qc (D.rows v) fun r=>Qc (D.card v) fun x=>(D.W v r x:Int)⟩
def NF.net (D:NF):Qb:=⟨D.g,Qc D.n D.node⟩
def Qm (n:Nat) (w:Nat → Nat):List Int:=Qc n fun j=>(w j:Int)
theorem Zr {n k:Nat} {w:Nat → Nat} (h:k < n):lkI (Qm n w) (k:Int)=some (w k:Int):=Qv h
theorem Ye {n:Nat} {w:Nat → Nat}:(Qm n w).length=n:=Qr
structure VN (D:NF):Prop where
 n1:1≤D.n
 n8:D.n≤8
 g1:1≤D.g
 g60:D.g≤60
 card:∀v,v < D.n→1≤D.card v∧D.card v≤4
 par:∀v,v < D.n→∀p∈D.par v,p < D.n
 len:∀v,v < D.n→(D.par v).length≤8
 W:∀v r x,v < D.n→r < D.rows v→x < D.card v→D.W v r x≤D.g
 worlds:prodTo D.n D.card≤1024
theorem Qb1 {f:Nat → Nat} {l:List Nat} {p:Nat}:lprod f (l++[p])=lprod f l*f p:=by simp [lprod]
theorem Qfb {f:Nat → Nat} {l:List Nat} (h:∀p∈l,f p≤4):lprod f l≤4^l.length:=by
 have key:∀(l:List Nat) (R K:Nat),R≤K→(∀p∈l,f p≤4)→l.foldl (fun r p=>r*f p) R≤K*4^l.length:=by
  intro l
  induction l with
  | nil=>intro R K h _; simpa using h
  | cons p l ih =>
   intro R K hr hp
   simp only [List.foldl_cons,List.length_cons,Nat.pow_succ]
   have:=ih (R*f p) (K*4) (Nat.mul_le_mul hr (hp p (by simp))) (fun q hq=>hp q (List.mem_cons_of_mem _ hq))
   rwa [Nat.mul_assoc,Nat.mul_comm 4] at this
 have:=key l 1 1 (by omega) h
 simpa [lprod] using this
section
variable {D:NF} (V:VN D) {w:Nat → Nat}
include V
theorem VN.rows_le {v:Nat} (hv:v < D.n):D.rows v≤65536:=by
 refine Nat.le_trans (Qfb fun p hp=>(V.card p (V.par v hv p hp)).2) ?_
 exact Nat.pow_le_pow_right (by omega) (V.len v hv)
omit V in
theorem Xn {α:Type} {l:List α} {k:Nat} (h:k < l.length):l.take (k+1)=l.take k++[l[k]]:=by rw [List.take_add_one,List.getElem?_eq_getElem h]; rfl
theorem VN.node {v:Nat} (hv:v < D.n):lkI D.net.Nodes (v:Int)=some (D.node v):=Qv hv
end
theorem Qrm {a k:Nat} (ha:a < 18446744073709551616) (hk:k < 64) :
  zv (zb (a:Int) ||| zb (zv (1*2^min (Int.toNat (k:Int)) (IntKind.bits .u64)))).toNat = ((a ||| 2^k:Nat):Int):=by
 have hb:IntKind.bits .u64=64:=rfl
 have e0:min (Int.toNat (k:Int)) (IntKind.bits .u64)=k:=by rw [hb,Int.toNat_natCast]; omega
 have hp:2^k < 18446744073709551616:=by
  have:2^k < 2^64:=Nat.pow_lt_pow_right (by omega) hk
  exact this
 rw [e0,show (1:Int)*2^k=((2^k:Nat):Int) by simp,Yx hp]
 have e1:(zb (a:Int) ||| zb ((2^k:Nat):Int)).toNat = a ||| 2^k:=by
  rw [BitVec.toNat_or,Qes ha,Qes hp]
 rw [e1,Yx]
 exact Nat.or_lt_two_pow (n:=64) ha hp
theorem or_lt {a k:Nat} (ha:a < 18446744073709551616) (hk:k < 64):a ||| 2^k < 18446744073709551616 :=
 Nat.or_lt_two_pow (n:=64) ha (Nat.pow_lt_pow_right (by omega) hk)
theorem Q7u {a k j:Nat}:(a ||| 2^k).testBit j=(a.testBit j || decide (k=j)):=by
 rw [Nat.testBit_or,Nat.testBit_two_pow]
theorem Quc {a b:Nat} (ha:a < 18446744073709551616) (hb:b < 18446744073709551616) :
  (zv (zb (a:Int) &&& ~~~ zb (b:Int)).toNat == 0)=true↔∀j,a.testBit j=true→b.testBit j=true:=by
 have h1:(zb (a:Int) &&& ~~~ zb (b:Int)).toNat < 18446744073709551616:=BitVec.isLt _
 rw [Yx h1]
 generalize hx:zb (a:Int) &&& ~~~ zb (b:Int)=x
 have hbit:∀j,j < 64→x.getLsbD j=(a.testBit j && !(b.testBit j)):=fun j hj=>by
  rw [←hx,BitVec.getLsbD_and,BitVec.getLsbD_not]
  have:(IntKind.bits .u64)=64:=rfl
  have e1:(zb (a:Int)).getLsbD j=a.testBit j:=by unfold BitVec.getLsbD; rw [Qes ha]
  have e2:(zb (b:Int)).getLsbD j=b.testBit j:=by unfold BitVec.getLsbD; rw [Qes hb]
  rw [e1,e2]
  simp [this,hj]
 constructor
 ·intro h j hj
  have hx0:x.toNat = 0:=by simpa using h
  have h64:j < 64:=by
   rcases Nat.lt_or_ge j 64 with h' | h'
   ·exact h'
   ·have:=Nat.testBit_lt_two_pow (i:=j) (x:=a) (Nat.lt_of_lt_of_le ha (Nat.pow_le_pow_right (n:=2) (by omega) h'))
    rw [this] at hj; cases hj
  have h2:=hbit j h64
  have h3:x.getLsbD j=false:=by unfold BitVec.getLsbD; rw [hx0]; simp
  rw [h3,hj] at h2
  simpa using h2
 ·intro h
  have:x=0#_:=by
   apply BitVec.eq_of_getLsbD_eq
   intro j hj
   have hj':j < 64:=hj
   rw [hbit j hj']
   cases ha':a.testBit j with
   | false=>simp
   | true=>rw [h j ha']; simp
  rw [this]; rfl
def KK:Int:=167961600000000
def BD (m:Nat) (z:Int):Prop:=-((m:Int)*KK)≤z∧z≤(m:Int)*KK
theorem BD.add {m p:Nat} {a b:Int} (h:BD m a) (k:BD p b):BD (m+p) (a+b):=by
 unfold BD at *
 rw [Int.natCast_add,Int.add_mul]; omega
theorem BD.zero {m:Nat}:BD m 0:=by unfold BD KK; omega
theorem BD.sum {n p:Nat} {f:Nat → Int} (h:∀k,k < n→BD p (f k)):BD (n*p) (Ql n f):=by
 induction n with
 | zero=>exact BD.zero
 | succ n ih=>simp only [Ql]; rw [Nat.succ_mul]; exact (ih fun k hk=>h k (by omega)).add (h n (by omega))
section
variable {D:NF} {E:Nat → Int}
theorem Yv {α β:Type} {o:Option α} {a:α} {k:α→Option β} {r:Option β} (h:o=some a) (h2:k a=r):o.bind k=r:=by rw [h]; exact h2
theorem Qph (V:VN D):Vj D.net=some (Qm D.n D.card):=by
 have hlen:D.net.Nodes.length=D.n:=Qr
 have hn:=V.n8
 unfold Vj
 refine Yv (Ze (s0:=((0:Int),([]:List Int))) (r:=Qm D.n D.card) (fun k=>((k:Int),Qm k D.card)) D.n rfl (fun k hk=>?_) ?_ (by omega)) rfl
 ·unfold J1
  simp only
  rw [if_pos (by rw [hlen]; simpa using hk),V.node hk]
  simp only [Option.bind_some]
  rw [show (D.node k).Card=(D.card k:Int) from rfl,show Qm k D.card++[(D.card k:Int)]=Qm (k+1) D.card from Qd8,if_pos (by rw [Ye]; omega),w64 (by omega)]
  rfl
 ·unfold J1
  simp only
  rw [if_neg (by rw [hlen]; simp)]
theorem Q56 {n:Nat} {f:Nat → Nat} (hf:∀k,k < n→f k≤4) (hn:n≤8):Vd (Qm n f)=some (prodTo n f:Int):=by
 unfold Vd
 refine Yv (Ze (s0:=((1:Int),(0:Int))) (r:=(prodTo n f:Int)) (fun k=>((prodTo k f:Int),(k:Int))) n rfl (fun k hk=>?_) ?_ (by omega)) rfl
 ·have h1:prodTo k f≤4^k:=Vk fun j hj=>hf j (by omega)
  have h2:(4:Nat)^k≤4^8:=Nat.pow_le_pow_right (by omega) (by omega)
  have h3:prodTo k f*f k≤65536*4:=Nat.mul_le_mul (by omega) (hf k hk)
  unfold Kn
  simp only
  rw [if_pos (by rw [Ye]; simpa using hk),Zr hk]
  simp only [Option.bind_some]
  have e:(prodTo k f:Int)*(f k:Int)=((prodTo (k+1) f:Nat):Int):=by simp [prodTo]
  rw [e,w64 (by simp only [prodTo]; omega),w64 (by omega)]
  rfl
 ·unfold Kn
  simp only
  rw [if_neg (by rw [Ye]; simp)]
theorem Qrh {n:Nat} {f:Nat → Nat} {l:List Nat} (hl:∀p∈l,p < n) (h8:l.length≤8):Qcp (Qm n f) (l.map fun (p:Nat)=>(p:Int))=some (l.map fun p=>(f p:Int)):=by
 unfold Qcp
 refine Yv (Ze (s0:=((0:Int),([]:List Int))) (r:=l.map fun p=>(f p:Int)) (fun k=>((k:Int),(l.take k).map fun p=>(f p:Int))) l.length (by simp) (fun k hk=>?_) ?_ (by omega)) rfl
 ·unfold Qgc
  simp only
  rw [if_pos (by simpa using hk),Qn (by simpa using hk)]
  simp only [Option.bind_some,List.getElem_map]
  rw [Zr (hl _ (List.getElem_mem hk))]
  simp only [Option.bind_some]
  rw [if_pos (by simp [List.length_take]; omega),w64 (by omega),Xn hk]
  simp only [List.map_append,List.map_cons,List.map_nil]
  rfl
 ·unfold Qgc
  simp only
  rw [if_neg (by simp),List.take_of_length_le (Nat.le_refl _)]
end
structure VX (D:NF):Prop where
 vn:VN D
 sorted:∀v,v < D.n→(D.par v).Pairwise (· < ·)
 self:∀v,v < D.n→v ∉ D.par v
 rank:∃rk:Nat → Nat,∀v,v < D.n→∀p∈D.par v,rk p < rk v
 sum:∀v r,v < D.n→r < D.rows v→Ql (D.card v) (fun x=>(D.W v r x:Int))=D.g
theorem Qd4:∀(a b:List Nat),a.Nodup→a ⊆ b→a.length≤b.length
 | [],_,_,_=>by simp
 | x::a,b,hn,hs=>by
  have hx:x∈b:=hs (by simp)
  rw [List.nodup_cons] at hn
  have h1:a ⊆ b.erase x:=fun y hy=>by
   have hne:y≠x:=fun e=>hn.1 (e ▸ hy)
   exact (List.mem_erase_of_ne hne).2 (hs (List.mem_cons_of_mem _ hy))
  have h2:=Qd4 a (b.erase x) hn.2 h1
  have h3:=List.length_erase_of_mem hx
  have h4:0 < b.length:=List.length_pos_of_mem hx
  simp only [List.length_cons]
  omega
def bitsOf (l:List Nat) (a:Nat):Nat := l.foldl (fun a p=>a ||| 2^p) a
theorem Vf {j:Nat}:∀(l:List Nat) (a:Nat),(bitsOf l a).testBit j=(a.testBit j || decide (j∈l))
 | [],a=>by simp [bitsOf]
 | p::l,a=>by
  have:=Vf (j:=j) l (a ||| 2^p)
  unfold bitsOf at this ⊢
  simp only [List.foldl_cons]
  rw [this,Q7u]
  by_cases h:p=j
  ·subst h; simp
  ·have:j≠p:=Ne.symm h
   simp [h,this]
theorem Qam:∀(l:List Nat) (a:Nat),a < 18446744073709551616→(∀p∈l,p < 64)→bitsOf l a < 18446744073709551616
 | [],a,h,_=>h
 | p::l,a,h,hl=>Qam l (a ||| 2^p) (or_lt h (hl p (by simp))) fun q hq=>hl q (List.mem_cons_of_mem _ hq)
theorem Qaz {l:List Nat} {p a:Nat}:bitsOf (l++[p]) a=bitsOf l a ||| 2^p:=by simp [bitsOf]
section
variable {D:NF}
theorem Q3a (X:VX D) {v r k:Nat} (hv:v < D.n) (hr:r < D.rows v) (hk:k < D.card v):Ql k (fun x=>(D.W v r x:Int))+D.W v r k≤D.g:=by
 have h1:=X.sum v r hv hr
 have h2:Ql (D.card v) (fun x=>(D.W v r x:Int))=Ql (k+1) (fun x=>(D.W v r x:Int))+Ql (D.card v - (k+1)) (fun x=>(D.W v r (k+1+x):Int)):=by
  rw [←Qk6,show k+1+(D.card v - (k+1))=D.card v by omega]
 have h3:0≤Ql (D.card v - (k+1)) (fun x=>(D.W v r (k+1+x):Int)):=Vw fun x _=>Int.natCast_nonneg _
 simp only [Ql] at h2
 omega
theorem Q13 (X:VX D) {v:Nat} (hv:v < D.n) {sets order:List Int}:Xl ⟨D.net,Qm D.n D.card,sets,order⟩ (D.node v)=some true:=by
 have V:=X.vn
 have hl:(D.node v).Parents.length=(D.par v).length:=by simp [NF.node]
 have hlen:=V.len v hv
 have hrl:(D.node v).Rows.length=D.rows v:=by simp [NF.node,Qr]
 have hrows:=V.rows_le hv
 have hcv:=V.card v hv
 unfold Xl
 refine Yv (Ze (s0:=((1:Int),(0:Int))) (r:=(D.rows v:Int)) (fun k=>((lprod D.card ((D.par v).take k):Int),(k:Int))) (D.par v).length (by simp [lprod]) (fun k hk=>?_) ?_ (by omega)) ?_
 ·have hp:=V.par v hv (D.par v)[k] (List.getElem_mem hk)
  have b1:lprod D.card ((D.par v).take k)≤4^8:=Nat.le_trans (Qfb fun p hp=>(V.card p (V.par v hv p (List.mem_of_mem_take hp))).2) (Nat.pow_le_pow_right (by omega) (by rw [List.length_take]; omega))
  have b2:lprod D.card ((D.par v).take k)*D.card (D.par v)[k]≤65536*4:=Nat.mul_le_mul (by omega) (V.card _ hp).2
  unfold Xj
  simp only
  rw [if_pos (by rw [hl]; simpa using hk),Qn (by rw [hl]; exact hk)]
  have e0:(D.node v).Parents[k]'(by rw [hl]; exact hk)=(((D.par v)[k]:Nat):Int):=by simp [NF.node]
  simp only [Option.bind_some,e0]
  rw [Zr hp]
  simp only [Option.bind_some]
  have e1:(lprod D.card ((D.par v).take k):Int)*(D.card (D.par v)[k]:Int)=((lprod D.card ((D.par v).take (k+1)):Nat):Int):=by rw [Xn hk,Qb1]; simp
  have e2:lprod D.card ((D.par v).take (k+1))≤65536*4:=by rw [Xn hk,Qb1]; exact b2
  rw [e1,w64 (by omega),w64 (by omega)]
  rfl
 ·unfold Xj
  simp only
  rw [if_neg (by rw [hl]; simp),List.take_of_length_le (Nat.le_refl _)]
  rfl
 ·rw [if_neg (by rw [hrl]; simp)]
  refine Yv (Ze (s0:=(0:Int)) (r:=Sum.inr ()) (fun r=>(r:Int)) (D.rows v) rfl (fun r hr=>?_) ?_ (by omega)) rfl
  ·unfold Zw
   simp only
   rw [if_pos (by rw [hrl]; simpa using hr),show lkI (D.node v).Rows (r:Int)=some (Qc (D.card v) fun x=>(D.W v r x:Int)) from Qv hr]
   simp only [Option.bind_some]
   have hin:Qd fuel (Za (Qc (D.card v) fun x=>(D.W v r x:Int))) ((D.g:Int),(0:Int))=some (Sum.inr 0):=by
    refine Ze (fun k=>((D.g:Int) - Ql k (fun x=>(D.W v r x:Int)),(k:Int))) (D.card v) _ (by simp [Ql]) (fun k hk=>?_) ?_ (by omega)
    ·have h1:=Q3a X hv hr hk
     have h2:0≤Ql k (fun x=>(D.W v r x:Int)):=Vw fun x _=>Int.natCast_nonneg _
     have hg:=V.g60
     unfold Za
     simp only
     rw [if_pos (by rw [Qr]; simpa using hk),Qv hk]
     simp only [Option.bind_some]
     rw [if_neg (by simp),if_neg (by simp; omega),w64 (by omega),w64 (by omega)]
     simp only [Ql]
     congr 3
     omega
    ·unfold Za
     simp only
     rw [if_neg (by rw [Qr]; simp),X.sum v r hv hr,Int.sub_self]
   rw [show (D.net.Grain:Int)=(D.g:Int) from rfl,hin]
   simp only [Option.bind_some]
   rw [if_neg (by rw [Qr]; simp [NF.node]),if_neg (by simp),w64 (by omega)]
   rfl
  ·unfold Zw
   simp only
   rw [if_neg (by rw [hrl]; simp)]
def setN (D:NF) (v:Nat):Nat := bitsOf (D.par v) 0
theorem Qx7 (V:VN D) {v:Nat} (hv:v < D.n):setN D v < 18446744073709551616:=Qam _ _ (by omega) fun p hp=>by have:=V.par v hv p hp; have:=V.n8; omega
theorem Qvk {v j:Nat}:(setN D v).testBit j=decide (j∈D.par v):=by unfold setN; rw [Vf]; simp
theorem Qsw (X:VX D):∃order,V6 (Qm D.n (setN D))=some (order,true):=by
 have V:=X.vn
 have hn:=V.n8
 obtain ⟨rk,hrk⟩:=X.rank
 have hlen:(Qm D.n (setN D)).length=D.n:=Ye
 let I:Int × List Int→Prop:=fun s=>∃(l:List Nat),l.Nodup∧(∀p∈l,p < D.n)∧s=((bitsOf l 0:Int),l.map fun (p:Nat)=>(p:Int))
 have hw:=Z2 (body:=Xu (Qm D.n (setN D))) I (fun s=>D.n - s.2.length) (fun r=>∃o,r=Sum.inr o) (fun s hs=>?_) ((0:Int),List.replicate (Int.toNat 0) (0:Int)) ⟨[],List.nodup_nil,fun p hp=>by simp at hp,rfl⟩ (by simp; omega)
 ·obtain ⟨r,h1,o,rfl⟩:=hw
  refine ⟨o,?_⟩
  unfold V6
  rw [if_pos (by rw [hlen]; omega),h1]
  rfl
 ·obtain ⟨l,hnd,hl,rfl⟩:=hs
  have hll:l.length≤D.n:=by
   have h1:l ⊆ List.range D.n:=fun p hp=>List.mem_range.2 (hl p hp)
   have:=Qd4 l (List.range D.n) hnd h1
   simpa using this
  have hdl:bitsOf l 0 < 18446744073709551616:=Qam _ _ (by omega) fun p hp=>by have:=hl p hp; omega
  by_cases hc:l.length < D.n
  ·
   have hex:∃v,v < D.n∧v ∉ l:=by
    apply Classical.byContradiction
    intro hno
    have h1:List.range D.n ⊆ l:=fun p hp=>by
     apply Classical.byContradiction
     intro hp'
     exact hno ⟨p,List.mem_range.1 hp,hp'⟩
    have:=Qd4 (List.range D.n) l List.nodup_range h1
    simp at this
    omega
   have hmin:∃v,v < D.n∧v ∉ l∧∀u,u < D.n→u ∉ l→rk v≤rk u:=by
    obtain ⟨v0,h1,h2⟩:=hex
    have:∀(k:Nat) (v:Nat),rk v≤k→v < D.n→v ∉ l→∃v,v < D.n∧v ∉ l∧∀u,u < D.n→u ∉ l→rk v≤rk u:=by
     intro k
     induction k with
     | zero=>intro v hk h1 h2; exact ⟨v,h1,h2,fun u _ _=>by omega⟩
     | succ k ih =>
      intro v hk h1 h2
      by_cases hall:∀u,u < D.n→u ∉ l→rk v≤rk u
      ·exact ⟨v,h1,h2,hall⟩
      ·have:∃u,u < D.n∧u ∉ l∧rk u < rk v:=by
        apply Classical.byContradiction
        intro hno
        exact hall fun u hu hul=>by
         apply Classical.byContradiction
         intro hlt
         exact hno ⟨u,hu,hul,by omega⟩
       obtain ⟨u,hu,hul,hlt⟩:=this
       exact ih u (by omega) hu hul
    exact this (rk v0) v0 (Nat.le_refl _) h1 h2
   obtain ⟨v1,hv1,hv1l,hv1m⟩:=hmin
   have hready:∀p∈D.par v1,p∈l:=fun p hp=>by
    apply Classical.byContradiction
    intro hpl
    have h1:=hv1m p (V.par v1 hv1 p hp) hpl
    have h2:=hrk v1 hv1 p hp
    omega
   left
   have hs2:=Z2 (body:=V9 (Qm D.n (setN D)) ((bitsOf l 0:Int),l.map fun (p:Nat)=>(p:Int))) (fun s=>∃k:Nat,k≤v1∧s=(k:Int)) (fun s=>D.n - s.toNat)
    (fun r=>∃v,v < D.n∧v ∉ l∧r=Sum.inl (((bitsOf l 0 ||| 2^v:Nat):Int),(l.map fun (p:Nat)=>(p:Int))++[(v:Int)])) (fun s hs=>?_) (0:Int) ⟨0,by omega,rfl⟩ (by simp; omega)
   ·obtain ⟨r,h1,v,hv,hvl,rfl⟩:=hs2
    refine ⟨(((bitsOf l 0 ||| 2^v:Nat):Int),(l.map fun (p:Nat)=>(p:Int))++[(v:Int)]),?_,⟨l++[v],?_,?_,?_⟩,by simp; omega⟩
    ·unfold Xu
     simp only
     rw [if_pos (by rw [hlen]; simp; omega),h1]
     rfl
    ·rw [List.nodup_append]
     exact ⟨hnd,by simp,fun a ha b hb=>by simp at hb; subst hb; exact fun e=>hvl (e ▸ ha)⟩
    ·intro p hp
     rcases List.mem_append.1 hp with h | h
     ·exact hl p h
     ·simp at h; subst h; exact hv
    ·rw [Qaz]; simp
   ·obtain ⟨k,hk,rfl⟩:=hs
    have hkn:k < D.n:=by omega
    have ek:zw ((k:Int)+1)=((k+1:Nat):Int):=by rw [w64 (by omega)]; omega
    have hbk:(bitsOf l 0).testBit k=decide (k∈l):=by rw [Vf]; simp
    unfold V9
    simp only
    rw [if_pos (by rw [hlen]; simpa using hkn),Zr hkn]
    simp only [Option.bind_some]
    rw [if_pos (by omega),Qzw hdl (by omega),hbk]
    by_cases hkl:k∈l
    ·left
     rw [if_neg (by simp [hkl]),ek]
     have hne:k≠v1:=fun e=>hv1l (e ▸ hkl)
     exact ⟨_,rfl,⟨k+1,by omega,rfl⟩,by simp; omega⟩
    ·rw [if_pos (by simp [hkl])]
     by_cases hsub:∀p∈D.par k,p∈l
     ·right
      rw [if_pos ((Quc (Qx7 V hkn) hdl).2 fun j hj=>by
       rw [Qvk] at hj
       rw [Vf]
       simp at hj ⊢
       exact hsub j hj),if_pos (by simp; omega),if_pos (by omega),Qrm hdl (by omega)]
      exact ⟨_,rfl,k,hkn,hkl,rfl⟩
     ·left
      have hne:k≠v1:=fun e=>by subst e; exact hsub hready
      rw [if_neg (fun hc'=>hsub fun p hp=>by
       have:=(Quc (Qx7 V hkn) hdl).1 hc' p (by rw [Qvk]; simpa using hp)
       rw [Vf] at this
       simpa using this),ek]
      exact ⟨_,rfl,⟨k+1,by omega,rfl⟩,by simp; omega⟩
  ·right
   refine ⟨Sum.inr (l.map fun (p:Nat)=>(p:Int)),?_,_,rfl⟩
   unfold Xu
   simp only
   rw [if_neg (by rw [hlen]; simp; omega)]
theorem Qsl (X:VX D):∃order,Kk D.net=some (⟨D.net,Qm D.n D.card,Qm D.n (setN D),order⟩,0):=by
 have V:=X.vn
 have hn:=V.n8
 have hn1:=V.n1
 have hg:=V.g60
 have hg1:=V.g1
 have hlen:D.net.Nodes.length=D.n:=Qr
 have hG:D.net.Grain=(D.g:Int):=rfl
 obtain ⟨order,hord⟩:=Qsw X
 refine ⟨order,?_⟩
 unfold Kk
 rw [hlen,hG,if_neg (by simp; omega),if_neg (by simp; omega),if_neg (by simp; omega),if_neg (by simp; omega),if_pos (by omega),if_pos (by omega),Int.toNat_natCast,Qdu]
 have h0:Qd fuel (X7 D.net) ((1:Int),(0:Int),Qc D.n fun _=>(0:Int))=some (Sum.inr ((prodTo D.n D.card:Int),Qm D.n D.card)):=by
  refine Ze (fun k=>((prodTo k D.card:Int),(k:Int),Qc D.n fun j=>if j < k then (D.card j:Int) else 0)) D.n _ (by simp [prodTo]) (fun k hk=>?_) ?_ (by omega)
  ·have b1:prodTo k D.card≤4^k:=Vk fun j hj=>(V.card j (by omega)).2
   have b2:(4:Nat)^k≤4^8:=Nat.pow_le_pow_right (by omega) (by omega)
   have b3:prodTo k D.card*D.card k≤65536*4:=Nat.mul_le_mul (by omega) (V.card k hk).2
   have hc:=V.card k hk
   have e1:(prodTo k D.card:Int)*(D.node k).Card=((prodTo (k+1) D.card:Nat):Int):=by simp [prodTo,NF.node]
   unfold X7
   simp only
   rw [if_pos (by rw [hlen]; simpa using hk),V.node hk]
   simp only [Option.bind_some]
   have hc1:¬ (decide ((D.node k).Card < 1)=true):=by rw [decide_eq_true_eq]; show ¬ ((D.card k:Int) < 1); omega
   have hc2:¬ (decide ((D.node k).Card > 4)=true):=by rw [decide_eq_true_eq]; show ¬ ((D.card k:Int) > 4); omega
   rw [if_neg hc1,if_neg hc2,Qv hk]
   simp only [Option.bind_some]
   have w1:zw ((prodTo (k+1) D.card:Nat):Int)=((prodTo (k+1) D.card:Nat):Int):=w64 (by simp only [prodTo]; omega)
   rw [e1,w1,w64 (by omega),Int.toNat_natCast,Yf]
   congr 4
   refine Qu fun j hj=>?_
   by_cases e:j=k
   ·subst e; simp [NF.node]
   ·rw [if_neg e]
    by_cases e2:j < k
    ·rw [if_pos e2,if_pos (by omega)]
    ·rw [if_neg e2,if_neg (by omega)]
  ·unfold X7
   simp only
   rw [if_neg (by rw [hlen]; simp)]
   congr 4
   exact Qu fun j hj=>if_pos hj
 rw [h0]
 simp only [Option.bind_some]
 have hwd:=V.worlds
 rw [if_neg (by simp; omega)]
 have h2:Qd fuel (X8 D.net ((prodTo D.n D.card:Int),Qm D.n D.card)) ((0:Int),Qc D.n fun _=>(0:Int))=some (Sum.inr (Qm D.n (setN D))):=by
  refine Ze (fun v=>((v:Int),Qc D.n fun j=>if j < v then (setN D j:Int) else 0)) D.n _ (by simp) (fun v hv=>?_) ?_ (by omega)
  ·have hl:(D.node v).Parents.length=(D.par v).length:=by simp [NF.node]
   have hplen:=V.len v hv
   have h1:Qd fuel (X5 (D.node v) D.net ((v:Int),Qc D.n fun j=>if j < v then (setN D j:Int) else 0)) ((-1:Int),(0:Int),Qc D.n fun j=>if j < v then (setN D j:Int) else 0) =
     some (Sum.inr (Qc D.n fun j=>if j < v+1 then (setN D j:Int) else 0)):=by
    refine Ze (fun k=>((if k=0 then (-1:Int) else (((D.par v).getD (k - 1) 0:Nat):Int)),(k:Int),Qc D.n fun j=>if j < v then (setN D j:Int) else if j=v then (bitsOf ((D.par v).take k) 0:Int) else 0)) (D.par v).length _ ?_ (fun k hk=>?_) ?_ (by omega)
    ·simp only [if_true,List.take_zero]
     congr 2
     refine Qu fun j _=>?_
     by_cases e:j < v
     ·rw [if_pos e,if_pos e]
     ·rw [if_neg e,if_neg e]; simp [bitsOf]
    ·have hp:=V.par v hv (D.par v)[k] (List.getElem_mem hk)
     have hgt:(if k=0 then (-1:Int) else (((D.par v).getD (k - 1) 0:Nat):Int)) < (((D.par v)[k]:Nat):Int):=by
      by_cases h0:k=0
      ·rw [if_pos h0]; omega
      ·rw [if_neg h0]
       have hk1:k - 1 < (D.par v).length:=by omega
       have:=List.pairwise_iff_getElem.1 (X.sorted v hv) (k - 1) k hk1 hk (by omega)
       have e:(D.par v).getD (k - 1) 0=(D.par v)[k - 1]:=by simp [List.getD,hk1]
       rw [e]; omega
     have hself:(D.par v)[k]≠v:=fun e=>X.self v hv (by have:=List.getElem_mem hk; rwa [e] at this)
     have hbl:bitsOf ((D.par v).take k) 0 < 18446744073709551616:=Qam _ _ (by omega) fun p hp=>by have:=V.par v hv p (List.mem_of_mem_take hp); omega
     unfold X5
     simp only
     rw [if_pos (by rw [hl]; simpa using hk),Qn (by rw [hl]; exact hk)]
     have e0:(D.node v).Parents[k]'(by rw [hl]; exact hk)=(((D.par v)[k]:Nat):Int):=by simp [NF.node]
     simp only [Option.bind_some,e0]
     rw [if_neg (by rw [decide_eq_true_eq]; exact Int.not_le.2 hgt),if_neg (by rw [hlen]; simp; omega),if_neg (by simp; omega),Qv hv]
     simp only [Option.bind_some,Nat.lt_irrefl,if_false,if_true]
     rw [if_pos (by omega),Qrm hbl (by omega),w64 (by omega),Int.toNat_natCast,Yf,Xn hk,Qaz]
     have e2:(D.par v).getD (k+1 - 1) 0=(D.par v)[k]:=by simp [List.getD,hk]
     rw [if_neg (by omega),e2]
     congr 4
     refine Qu fun j _=>?_
     by_cases e:j=v
     ·subst e; simp
     ·rw [if_neg e,if_neg e,if_neg e]
    ·unfold X5
     simp only
     rw [if_neg (by rw [hl]; simp),List.take_of_length_le (Nat.le_refl _)]
     congr 3
     refine Qu fun j _=>?_
     by_cases e:j < v
     ·rw [if_pos e,if_pos (by omega)]
     ·rw [if_neg e]
      by_cases e2:j=v
      ·subst e2; rw [if_pos rfl,if_pos (by omega)]; rfl
      ·rw [if_neg e2,if_neg (by omega)]
   unfold X8
   simp only
   rw [if_pos (by rw [hlen]; simpa using hv),V.node hv]
   simp only [Option.bind_some]
   rw [h1]
   simp only [Option.bind_some]
   rw [Q13 X hv]
   simp only [Option.bind_some]
   rw [if_neg (by simp),w64 (by omega)]
   rfl
  ·unfold X8
   simp only
   rw [if_neg (by rw [hlen]; simp)]
   congr 3
   exact Qu fun j hj=>if_pos hj
 rw [h2]
 simp only [Option.bind_some]
 rw [hord]
 rfl
end
theorem Q2i {n:Nat} {f:Nat → Nat}:∃s:Nat,Ql n (fun x=>(f x:Int))=(s:Int):=by
 obtain ⟨s,hs⟩:=Int.eq_ofNat_of_zero_le (Vw (n:=n) (f:=fun x=>(f x:Int)) fun _ _=>Int.natCast_nonneg _)
 exact ⟨s,hs⟩
theorem Qfu {n k:Nat} {f:Nat → Int} (h:∀j,j < n→0≤f j) (hk:k≤n):Ql k f≤Ql n f:=by
 obtain ⟨m,rfl⟩:=Nat.exists_eq_add_of_le hk
 rw [Qk6]
 have:=Vw (n:=m) (f:=fun x=>f (k+x)) fun j hj=>h _ (by omega)
 omega
theorem Qqu {g S:Nat} (hS:0 < S):∀(n:Nat) (o:Nat → Nat),Ql n (fun x=>((g*o x / S:Nat):Int))*S≤g*Ql n (fun x=>(o x:Int))
 | 0,_=>by simp [Ql]
 | n+1,o=>by
  have ih:=Qqu (g:=g) hS n o
  have h1:g*o n / S*S≤g*o n:=Nat.div_mul_le_self _ _
  have h2:(((g*o n / S:Nat):Int))*(S:Int)≤(g:Int)*(o n:Int):=by exact_mod_cast h1
  simp only [Ql]
  rw [Int.add_mul,Int.mul_add]
  exact Int.add_le_add ih h2
theorem Q4f {g c:Nat} {l:List Int} {fr:Nat} (hg:g≤60) (hc:1≤c) (hc4:c≤4) (hl:∀x∈l,0≤x∧x≤255) (hll:l.length≤9223372036854775807) (hfr:fr≤100000) :
  ∃f:Nat → Nat,Qc8 (g:Int) (c:Int) l (fr:Int)=some (Qc c fun x=>(f x:Int))∧Ql c (fun x=>(f x:Int))=g:=by
 have hb0:∃o:Nat → Nat,(∀j,o j < 8)∧Qd fuel (Ju (c:Int) l (fr:Int)) ((0:Int),(0:Int),Qc c fun _=>(0:Int))=some (Ql c (fun x=>(o x:Int)),Qc c fun x=>(o x:Int)):=by
  by_cases h0:l.length=0
  ·refine ⟨fun _=>0,fun _=>Nat.zero_lt_succ _,?_⟩
   have hz:∀k,Ql k (fun _=>((0:Nat):Int))=0:=fun k=>Qfv
   refine Ze (fun k=>((0:Int),(k:Int),Qc c fun _=>(0:Int))) c _ rfl (fun k hk=>?_) ?_ (by omega)
   ·unfold Ju
    simp only
    rw [if_pos (by simpa using hk),if_neg (by simp [h0]),Qv hk]
    simp only [Option.bind_some]
    rw [w64 (by omega),w64 (by omega)]
    rfl
   ·unfold Ju
    simp only
    rw [if_neg (by simp),hz]
    rfl
  ·have hpos:0 < l.length:=by omega
   let o:Nat → Nat := fun k=>((l[(fr+k) % l.length]'(Nat.mod_lt _ hpos)).toNat) % 8
   refine ⟨o,fun j=>Nat.mod_lt _ (by omega),?_⟩
   refine Ze (fun k=>(Ql k (fun x=>(o x:Int)),(k:Int),Qc c fun j=>if j < k then (o j:Int) else 0)) c _ (by simp [Ql]) (fun k hk=>?_) ?_ (by omega)
   ·have hx:=hl _ (List.getElem_mem (Nat.mod_lt (fr+k) hpos))
    have ho:o k=((l[(fr+k) % l.length]'(Nat.mod_lt _ hpos)).toNat) % 8:=rfl
    have hs:Ql k (fun x=>(o x:Int))≤8*k:=by
     have:∀k,Ql k (fun x=>(o x:Int))≤8*k:=by
      intro k
      induction k with
      | zero=>simp [Ql]
      | succ k ih=>simp only [Ql]; have:o k < 8:=Nat.mod_lt _ (by omega); omega
     exact this k
    have hs0:0≤Ql k (fun x=>(o x:Int)):=Vw fun _ _=>Int.natCast_nonneg _
    have e1:Int.tmod (zw ((fr:Int)+(k:Int))) (l.length:Int)=(((fr+k) % l.length:Nat):Int):=by
     rw [w64 (by omega),Xr (by omega)]; simp
    unfold Ju
    simp only
    rw [if_pos (by simpa using hk),if_pos (by simp; omega),if_pos (by omega),e1,Qn (Nat.mod_lt _ hpos)]
    simp only [Option.bind_some]
    rw [Qv hk]
    simp only [Option.bind_some]
    have e2:Int.tmod (l[(fr+k) % l.length]'(Nat.mod_lt _ hpos)) 8=(o k:Int):=by rw [Xr hx.1,ho]; omega
    have ho8:o k < 8:=Nat.mod_lt _ (by omega)
    rw [e2]
    have w1:zw (o k:Int)=(o k:Int):=w64 (by omega)
    rw [w1,w64 (by omega),w64 (by omega),Int.toNat_natCast,Yf]
    simp only [Ql]
    congr 4
    refine Qu fun j hj=>?_
    by_cases e:j=k
    ·subst e; simp
    ·rw [if_neg e]
     by_cases e2:j < k
     ·rw [if_pos e2,if_pos (by omega)]
     ·rw [if_neg e2,if_neg (by omega)]
   ·unfold Ju
    simp only
    rw [if_neg (by simp)]
    congr 3
    exact Qu fun j hj=>if_pos hj
 obtain ⟨o,ho,h0⟩:=hb0
 obtain ⟨S,hS⟩:=Q2i (n:=c) (f:=o)
 let q:Nat → Nat := fun x=>g*o x / S
 have hq:∀x,o x=0→q x=0:=fun x h=>by show g*o x / S=0; rw [h]; simp
 have hSb:S≤32:=by
  have:∀k,Ql k (fun x=>(o x:Int))≤8*k:=by
   intro k
   induction k with
   | zero=>simp [Ql]
   | succ k ih=>simp only [Ql]; have:=ho k; omega
  have:=this c
  omega
 have hpart:∀k,k≤c→0≤Ql k (fun x=>(q x:Int))∧Ql k (fun x=>(q x:Int))≤g:=fun k hk=>by
  refine ⟨Vw fun _ _=>Int.natCast_nonneg _,Int.le_trans (Qfu (fun _ _=>Int.natCast_nonneg _) hk) ?_⟩
  by_cases h:S=0
  ·have:∀x,q x=0:=fun x=>by show g*o x / S=0; rw [h]; simp
   rw [Y9 (g:=fun _=>0) (fun x _=>by rw [this]; rfl),Qfv]; omega
  ·have h1:=Qqu (g:=g) (S:=S) (by omega) c o
   rw [hS] at h1
   have h2:Ql c (fun x=>(q x:Int))*(S:Int)≤(g:Int)*(S:Int):=h1
   exact Int.le_of_mul_le_mul_right h2 (by omega)
 have hb1:=Z2 (body:=Qff (c:Int) (Ql c (fun x=>(o x:Int)),Qc c fun x=>(o x:Int)) (g:Int))
  (fun s=>∃k last:Nat,k≤c∧last < c∧s=((g:Int) - Ql k (fun x=>(q x:Int)),(last:Int),(k:Int),Qc c fun j=>if j < k then (q j:Int) else (o j:Int)))
  (fun s=>c - s.2.2.1.toNat)
  (fun r=>∃last:Nat,last < c∧r=((g:Int) - Ql c (fun x=>(q x:Int)),(last:Int),Qc c fun j=>(q j:Int)))
  (fun s hs=>?_) ((g:Int),(0:Int),(0:Int),Qc c fun x=>(o x:Int)) ⟨0,0,by omega,by omega,by simp [Ql]⟩ (by simp; omega)
 ·obtain ⟨r,h1,last,hlast,rfl⟩:=hb1
  have hp:=hpart c (Nat.le_refl _)
  obtain ⟨left,hleft⟩:=Int.eq_ofNat_of_zero_le (show 0≤(g:Int) - Ql c (fun x=>(q x:Int)) by omega)
  refine ⟨fun x=>q x+if last=x then left else 0,?_,?_⟩
  ·unfold Qc8
   rw [if_pos (by omega),Int.toNat_natCast,Qdu,h0]
   simp only [Option.bind_some]
   rw [h1]
   simp only [Option.bind_some]
   rw [Qv hlast]
   simp only [Option.bind_some]
   have hql:(q last:Int)≤g:=by
    have e:=Qfu (n:=c) (k:=last+1) (f:=fun x=>(q x:Int)) (fun _ _=>Int.natCast_nonneg _) (by omega)
    have e2:=(hpart last (by omega)).1
    simp only [Ql] at e
    omega
   rw [hleft,w64 (by omega),Int.toNat_natCast,Yf]
   congr 1
   refine Qu fun x hx=>?_
   by_cases e:x=last
   ·subst e; simp
   ·rw [if_neg e,if_neg (Ne.symm e)]; simp
  ·have e:(fun x=>((q x+if last=x then left else 0:Nat):Int))=fun x=>(q x:Int)+if last=x then (left:Int) else 0:=by
    funext x; split <;> simp
   rw [e,Qv8,Q3y hlast]
   have:(left:Int)=(g:Int) - Ql c (fun x=>(q x:Int)):=hleft.symm
   omega
 ·obtain ⟨k,last,hk,hlast,rfl⟩:=hs
  unfold Qff
  simp only
  by_cases hkc:k < c
  ·left
   have hp1:=hpart k hk
   have hp2:=hpart (k+1) hkc
   have e1:Ql (k+1) (fun x=>(q x:Int))=Ql k (fun x=>(q x:Int))+(q k:Int):=rfl
   rw [if_pos (by simpa using hkc),Qv hkc]
   simp only [Option.bind_some,Nat.lt_irrefl,if_false]
   have ek:zw ((k:Int)+1)=((k+1:Nat):Int):=by rw [w64 (by omega)]; omega
   by_cases ho0:o k=0
   ·rw [if_neg (by simp [ho0]),ek,ho0,w64 (by omega)]
    refine ⟨_,rfl,⟨k+1,last,hkc,hlast,?_⟩,by simp; omega⟩
    rw [e1,hq k ho0]
    congr 1
    ·simp
    ·congr 2
     refine Qu fun j hj=>?_
     by_cases e:j=k
     ·subst e; simp [ho0,hq]
     ·by_cases e2:j < k
      ·rw [if_pos e2,if_pos (by omega)]
      ·rw [if_neg e2,if_neg (by omega)]
   ·have hSpos:S≠0:=by
     intro h
     have:=Qfu (n:=c) (k:=k+1) (f:=fun x=>(o x:Int)) (fun _ _=>Int.natCast_nonneg _) hkc
     have h2:0≤Ql k (fun x=>(o x:Int)):=Vw fun _ _=>Int.natCast_nonneg _
     simp only [Ql] at this
     omega
    have hok:=ho k
    have hm:g*o k≤60*8:=Nat.mul_le_mul hg (by omega)
    have e2:zw (Int.tdiv (zw ((g:Int)*(o k:Int))) (Ql c (fun x=>(o x:Int))))=(q k:Int):=by
     have e3:(g:Int)*(o k:Int)=((g*o k:Nat):Int):=by simp
     have hd:g*o k / S≤g*o k:=Nat.div_le_self _ _
     have w1:zw ((g*o k:Nat):Int)=((g*o k:Nat):Int):=w64 (by omega)
     rw [e3,w1,hS,J0 (Int.natCast_nonneg _),show ((g*o k:Nat):Int) / (S:Int)=((g*o k / S:Nat):Int) by simp]
     show zw ((g*o k / S:Nat):Int)=((g*o k / S:Nat):Int)
     obtain ⟨z,hz⟩:∃z,g*o k / S=z:=⟨_,rfl⟩
     rw [hz] at hd ⊢
     exact w64 (by omega)
    rw [if_pos (by simp; omega),if_pos (by rw [hS]; omega),e2,ek,Int.toNat_natCast,Yf,w64 (by omega)]
    refine ⟨_,rfl,⟨k+1,k,hkc,hkc,?_⟩,by simp; omega⟩
    rw [e1]
    congr 1
    ·omega
    ·congr 2
     refine Qu fun j hj=>?_
     by_cases e:j=k
     ·subst e; simp
     ·rw [if_neg e]
      by_cases e2:j < k
      ·rw [if_pos e2,if_pos (by omega)]
      ·rw [if_neg e2,if_neg (by omega)]
  ·right
   have:k=c:=by omega
   subst this
   rw [if_neg (by simp)]
   refine ⟨_,rfl,last,hlast,?_⟩
   congr 2
   exact Qu fun j hj=>if_pos hj
theorem Q59 {n:Nat} (hn:n≤5) {w:Int} {o:List Int}:J4 ⟨List.replicate n (0:Int),w,o⟩=some (List.replicate n 1):=by
 unfold J4
 refine Yv (Ze (s0:=((0:Int),([]:List Int))) (r:=List.replicate n 1) (fun k=>((k:Int),List.replicate k (1:Int))) n rfl (fun k hk=>?_) ?_ (by omega)) rfl
 ·unfold K5
  simp only
  rw [if_pos (by simp; omega),if_pos (by simp; omega),Qn (by simpa using hk)]
  simp only [Option.bind_some,List.getElem_replicate]
  have e:zw (1+zw (Int.tmod 0 4))=1:=by decide
  rw [e,if_pos (by simp; omega),w64 (by omega),←List.replicate_succ']
  rfl
 ·unfold K5
  simp only
  rw [if_neg (by simp)]
theorem Qwu {q:List Nat} {k a:Nat} (h:q.Nodup) (hk:∀x∈q,x < k):(q.take a++[k]++q.drop a).Nodup∧∀x∈q.take a++[k]++q.drop a,x < k+1:=by
 have hperm:(q.take a++[k]++q.drop a).Perm (k::q):=by
  have h1:(q.take a++[k]++q.drop a).Perm ([k]++q.take a++q.drop a):=List.Perm.append_right _ List.perm_append_comm
  have h2:[k]++q.take a++q.drop a=k::q:=by simp
  rw [h2] at h1
  exact h1
 refine ⟨?_,fun x hx=>?_⟩
 ·rw [hperm.nodup_iff,List.nodup_cons]
  exact ⟨fun hm=>Nat.lt_irrefl _ (hk k hm),h⟩
 ·have:=hperm.mem_iff.1 hx
  rcases List.mem_cons.1 this with e | e
  ·omega
  ·have:=hk x e; omega
theorem Qzx {n:Nat} (hn:n≤5) {o:List Int} (ho:∀x∈o,0≤x∧x≤255) :
  ∃q:List Nat,q.Nodup∧(∀x∈q,x < n)∧q.length=n∧Y2 ⟨List.replicate n (0:Int),0,o⟩=some (q.map fun (x:Nat)=>(x:Int)):=by
 have hw:=Z2 (body:=Vr ⟨List.replicate n (0:Int),0,o⟩) (fun s=>∃q:List Nat,q.Nodup∧(∀x∈q,x < q.length)∧q.length≤n∧s=((q.length:Int),q.map fun (x:Nat)=>(x:Int)))
  (fun s=>n - s.1.toNat) (fun r=>∃q:List Nat,q.Nodup∧(∀x∈q,x < n)∧q.length=n∧r=q.map fun (x:Nat)=>(x:Int)) (fun s hs=>?_) ((0:Int),([]:List Int)) ⟨[],List.nodup_nil,fun x hx=>by simp at hx,by simp,rfl⟩ (by simp; omega)
 ·obtain ⟨r,h1,q,h2,h3,h4,rfl⟩:=hw
  refine ⟨q,h2,h3,h4,?_⟩
  unfold Y2
  rw [h1]; rfl
 ·obtain ⟨q,hnd,hx,hl,rfl⟩:=hs
  unfold Vr
  rw [Q59 hn]
  simp only [Option.bind_some,List.length_replicate,List.length_map]
  by_cases hc:q.length < n
  ·left
   rw [if_pos (by simpa using hc)]
   have ek:zw ((q.length:Int)+1)=((q.length+1:Nat):Int):=by rw [w64 (by omega)]; omega
   have ins:∀a:Nat,a≤q.length→∃s',s'=((((q.take a++[q.length]++q.drop a).length:Nat):Int),(q.take a++[q.length]++q.drop a).map fun (x:Nat)=>(x:Int)) ∧
     (∃q:List Nat,q.Nodup∧(∀x∈q,x < q.length)∧q.length≤n∧s'=((q.length:Int),q.map fun (x:Nat)=>(x:Int)))∧n - s'.1.toNat < n - ((q.length:Int)).toNat := fun a ha=>by
    obtain ⟨i1,i2⟩:=Qwu (a:=a) hnd hx
    have hlen:(q.take a++[q.length]++q.drop a).length=q.length+1:=by simp; omega
    exact ⟨_,rfl,⟨_,i1,fun x hx=>by rw [hlen]; exact i2 x hx,by rw [hlen]; omega,rfl⟩,by simp only [hlen]; simp; omega⟩
   have hsub:∀a:Nat,a≤q.length→sub (q.map fun (x:Nat)=>(x:Int)) 0 (a:Int)=(q.take a).map (fun (x:Nat)=>(x:Int))∧sub (q.map fun (x:Nat)=>(x:Int)) (a:Int) (q.length:Int)=(q.drop a).map (fun (x:Nat)=>(x:Int)):=fun a ha=>by
    unfold sub
    refine ⟨by simp,?_⟩
    simp only [Int.toNat_natCast]
    rw [List.take_of_length_le (by simp),List.map_drop]
   by_cases ho':q.length < o.length
   ·rw [if_pos (by simpa using ho'),Qn ho']
    simp only [Option.bind_some]
    have hv:=ho _ (List.getElem_mem ho')
    obtain ⟨a,ha,hae⟩:∃a:Nat,a≤q.length∧Int.tmod (zw o[q.length]) ((q.length+1:Nat):Int)=(a:Int):=by
     refine ⟨(o[q.length]).toNat % (q.length+1),by have:=Nat.mod_lt (o[q.length]).toNat (show 0 < q.length+1 by omega); omega,?_⟩
     rw [w64 (by omega),Xr hv.1]
     rw [Int.natCast_emod,Int.toNat_of_nonneg hv.1]
    obtain ⟨s',hs',h1,h2⟩:=ins a ha
    refine ⟨s',?_,h1,by simpa using h2⟩
    rw [ek,if_pos (by omega),hae,if_pos (by omega),(hsub a ha).1,if_pos (by simp; omega),if_pos (by simp; omega),if_pos (by omega),(hsub a ha).2,if_pos (by simp; omega),hs']
    simp
    omega
   ·rw [if_neg (by simpa using ho')]
    obtain ⟨s',hs',h1,h2⟩:=ins 0 (by omega)
    refine ⟨s',?_,h1,by simpa using h2⟩
    have hz:=hsub 0 (by omega)
    rw [ek,if_pos (by omega),show sub (q.map fun (x:Nat)=>(x:Int)) 0 0=(q.take 0).map (fun (x:Nat)=>(x:Int)) from hz.1,if_pos (by simp),if_pos (by simp),if_pos (by omega),show sub (q.map fun (x:Nat)=>(x:Int)) 0 (q.length:Int)=(q.drop 0).map (fun (x:Nat)=>(x:Int)) from hz.2,if_pos (by simp; omega),hs']
    simp
  ·right
   rw [if_neg (by simpa using hc)]
   exact ⟨_,rfl,q,hnd,fun x hm=>by have:=hx x hm; omega,by omega,rfl⟩
theorem Qgx {x:Int}:0≤zv x:=by simp only [IntKind.wrap,IntKind.bits,IntKind.signed]; simp; omega
theorem Qkz {n:Nat} {q:List Nat} (hn:q.Nodup) (hl:∀x∈q,x < n) (hlen:q.length=n):∀v,v < n→v∈q:=fun v hv=>by
 apply Classical.byContradiction
 intro hno
 have h1:(v::q).Nodup:=List.nodup_cons.2 ⟨hno,hn⟩
 have h2:(v::q) ⊆ List.range n:=fun p hp=>by
  rcases List.mem_cons.1 hp with e | e
  ·subst e; exact List.mem_range.2 hv
  ·exact List.mem_range.2 (hl p e)
 have:=Qd4 _ _ h1 h2
 simp at this
 omega
theorem Qfj {q:List Nat} {i:Nat} (hi:i < q.length) {v:Nat}:v∈q.take (i+1)↔v∈q.take i∨v=q[i]:=by
 rw [Xn hi,List.mem_append,List.mem_singleton]
theorem Qpl {q:List Nat} (hn:q.Nodup) {i:Nat} (hi:i < q.length):q[i] ∉ q.take i:=fun h=>by
 obtain ⟨k,hk,e⟩:=List.mem_iff_getElem.1 h
 rw [List.length_take] at hk
 rw [List.getElem_take] at e
 have:=List.pairwise_iff_getElem.1 hn k i (by omega) hi (by omega)
 exact this e
theorem Qpg:∀{q:List Nat} {p j:Nat},p∈q.take j→q.idxOf p < j
 | [],p,j,h=>by simp at h
 | x::q,p,0,h=>by simp at h
 | x::q,p,j+1,h=>by
  rw [List.idxOf_cons]
  by_cases e:x=p
  ·subst e; simp
  ·have:p∈q.take j:=by
    rcases List.mem_cons.1 h with e' | e'
    ·exact absurd e'.symm e
    ·exact e'
   have:=Qpg this
   rw [show (x==p)=false by simpa using e]
   simp; omega
theorem Q3c {q:List Nat} (hn:q.Nodup) {j:Nat} (hj:j < q.length):j≤q.idxOf q[j]:=by
 apply Classical.byContradiction
 intro h
 have hk:q.idxOf q[j] < q.length:=by omega
 have e:q[q.idxOf q[j]]=q[j]:=List.getElem_idxOf hk
 have:=List.pairwise_iff_getElem.1 hn (q.idxOf q[j]) j hk hj (by omega)
 exact this e
def dcnt (p0:Qg):Nat := min (max p0.Nodes.length 1) 5
theorem Qg7 {p0:Qg}:(if 5 < (if 1 > (p0.Nodes.length:Int) then 1 else (p0.Nodes.length:Int)) then 5 else (if 1 > (p0.Nodes.length:Int) then 1 else (p0.Nodes.length:Int)))=(dcnt p0:Int):=by
 unfold dcnt
 split <;> split at * <;> omega
theorem Qki {p0:Qg}:1≤dcnt p0∧dcnt p0≤5:=by unfold dcnt; omega
structure Qy0 (p0:Qg):Prop where
 grain:0≤p0.Grain∧p0.Grain≤255
 order:∀x∈p0.Order,0≤x∧x≤255
 card:∀p∈p0.Nodes,0≤p.Card∧p.Card≤255
 W:∀p∈p0.Nodes,∀x∈p.W,0≤x∧x≤255
 Wl:∀p∈p0.Nodes,p.W.length≤9223372036854775807
section
variable {p0:Qg} {q:List Nat}
theorem Qpv {i:Nat} (hi:i < q.length):lkI (q.map fun (x:Nat)=>(x:Int)) (i:Int)=some ((q[i]:Nat):Int):=by rw [Qn (by simpa using hi)]; simp
theorem Q6t (h:Qy0 p0) (hn:q.Nodup) (hl:∀x∈q,x < dcnt p0) (hlen:q.length=dcnt p0) :
  ∃C:Nat → Nat,(∀v,v < dcnt p0→2≤C v∧C v≤3) ∧
   Qd fuel (Y7 p0 (q.map fun (x:Nat)=>(x:Int))) (1,0,List.replicate (dcnt p0) (Sum.inl 0))=some (Qc (dcnt p0) fun v=>Sum.inl (C v:Int)):=by
 have hcn:=Qki (p0:=p0)
 have hw:=Z2 (body:=Y7 p0 (q.map fun (x:Nat)=>(x:Int)))
  (fun s=>∃(w:Int) (i:Nat) (C:Nat → Nat),i≤dcnt p0∧(∀v,v∈q.take i→2≤C v∧C v≤3)∧s=(w,(i:Int),Qc (dcnt p0) fun v=>Sum.inl (C v:Int)))
  (fun s=>dcnt p0 - s.2.1.toNat)
  (fun r=>∃C:Nat → Nat,(∀v,v < dcnt p0→2≤C v∧C v≤3)∧r=Qc (dcnt p0) fun v=>Sum.inl (C v:Int))
  (fun s hs=>?_) (1,0,List.replicate (dcnt p0) (Sum.inl 0)) ⟨1,0,fun _=>0,by omega,fun v hv=>by simp at hv,by rw [Qdu]; rfl⟩ (by simp; omega)
 ·obtain ⟨r,h1,C,h2,rfl⟩:=hw
  exact ⟨C,h2,h1⟩
 ·obtain ⟨w,i,C,hi,hC,rfl⟩:=hs
  by_cases hic:i < dcnt p0
  ·left
   have hiq:i < q.length:=by omega
   have hv:=hl _ (List.getElem_mem hiq)
   have ek:zw ((i:Int)+1)=((i+1:Nat):Int):=by rw [w64 (by omega)]; omega
   have leaf:∀(w':Int) (c:Nat),2≤c→c≤3→(∃s',some (Qk.next (w',zw ((i:Int)+1),List.set (Qc (dcnt p0) fun v=>(Sum.inl (C v:Int):Int ⊕ Tapi_Node)) (Int.toNat ((q[i]:Nat):Int)) (Sum.inl (c:Int))))=some (Qk.next (ρ:=List (Int ⊕ Tapi_Node)) s') ∧
     (∃(w:Int) (i:Nat) (C:Nat → Nat),i≤dcnt p0∧(∀v,v∈q.take i→2≤C v∧C v≤3)∧s'=(w,(i:Int),Qc (dcnt p0) fun v=>Sum.inl (C v:Int)))∧dcnt p0 - s'.2.1.toNat < dcnt p0 - (i:Int).toNat):=fun w' c c1 c2=>by
    rw [ek]
    refine ⟨_,rfl,⟨w',i+1,Xm C q[i] c,hic,fun v hv=>?_,?_⟩,by simp; omega⟩
    ·rcases (Qfj hiq).1 hv with e | e
     ·by_cases e2:v=q[i]
      ·subst e2; rw [Yi]; exact ⟨c1,c2⟩
      ·rw [Kg e2]; exact hC v e
     ·subst e; rw [Yi]; exact ⟨c1,c2⟩
    ·rw [Int.toNat_natCast,Yf]
     congr 2
     refine Qu fun k hk=>?_
     by_cases e:k=q[i]
     ·rw [if_pos e,e,Yi]
     ·rw [if_neg e,Kg e]
   have hk:lkL (Qc (dcnt p0) fun v=>(Sum.inl (C v:Int):Int ⊕ Tapi_Node)) ((q[i]:Nat):Int)=some (C q[i]:Int):=by unfold lkL; rw [Qv hv]; rfl
   unfold Y7
   simp only [Qg7]
   rw [if_pos (by simpa using hic)]
   by_cases hin:i < p0.Nodes.length
   ·have hp:=h.card _ (List.getElem_mem hin)
    have ec:zw (2+zw (Int.tmod (p0.Nodes[i]).Card 2))=((2+(p0.Nodes[i]).Card.toNat % 2:Nat):Int):=by
     have w1:zw ((p0.Nodes[i]).Card % 2)=(p0.Nodes[i]).Card % 2:=w64 (by omega)
     rw [Xr hp.1,w1,w64 (by omega)]; omega
    rw [if_pos (by simpa using hin),Qn hin]
    simp only [Option.bind_some]
    rw [if_pos Qgx]
    split
    ·rw [Qpv hiq]
     simp only [Option.bind_some]
     rw [hk]
     exact leaf _ 2 (by omega) (by omega)
    ·rw [Qpv hiq]
     simp only [Option.bind_some]
     rw [hk]
     simp only [Option.bind_some]
     rw [ec]
     exact leaf _ _ (by omega) (by omega)
   ·rw [if_neg (by simpa using hin),if_pos Qgx]
    split
    ·rw [Qpv hiq]
     simp only [Option.bind_some]
     rw [hk]
     exact leaf _ 2 (by omega) (by omega)
    ·rw [Qpv hiq]
     simp only [Option.bind_some]
     rw [hk]
     simp only [Option.bind_some]
     exact leaf _ 2 (by omega) (by omega)
  ·right
   have:i=dcnt p0:=by omega
   subst this
   unfold Y7
   simp only [Qg7]
   rw [if_neg (by simp)]
   refine ⟨_,rfl,C,fun v hv=>hC v ?_,rfl⟩
   rw [List.take_of_length_le (by omega)]
   exact Qkz hn hl hlen v hv
theorem Q62 (hn:q.Nodup) {L:List (Int ⊕ Tapi_Node)} {i u:Nat} {P:List Nat} {pc:Qz} (hi:i < q.length) (hq:q.length≤5) :
  ∃P':List Nat,(P'=P∨(P'=P++[u]∧u∈q.take i∧P.length < 3)) ∧
   Qd fuel (Ve ((i:Int),L) (q.map fun (x:Nat)=>(x:Int)) ((u:Int),P.map fun (x:Nat)=>(x:Int)) pc) (0,P.map fun (x:Nat)=>(x:Int))=some (P'.map fun (x:Nat)=>(x:Int)):=by
 have hw:=Z2 (body:=Ve ((i:Int),L) (q.map fun (x:Nat)=>(x:Int)) ((u:Int),P.map fun (x:Nat)=>(x:Int)) pc)
  (fun s=>∃(k:Nat) (P':List Nat),k≤i∧(P'=P∨(P'=P++[u]∧u∈q.take k∧P.length < 3))∧s=((k:Int),P'.map fun (x:Nat)=>(x:Int)))
  (fun s=>i - s.1.toNat) (fun r=>∃P':List Nat,(P'=P∨(P'=P++[u]∧u∈q.take i∧P.length < 3))∧r=P'.map fun (x:Nat)=>(x:Int))
  (fun s hs=>?_) ((0:Int),P.map fun (x:Nat)=>(x:Int)) ⟨0,P,by omega,.inl rfl,rfl⟩ (by simp; omega)
 ·obtain ⟨r,h1,P',h2,rfl⟩:=hw
  exact ⟨P',h2,h1⟩
 ·obtain ⟨k,P',hk,hP,rfl⟩:=hs
  by_cases hki:k < i
  ·left
   have hkq:k < q.length:=by omega
   have ek:zw ((k:Int)+1)=((k+1:Nat):Int):=by rw [w64 (by omega)]; omega
   have same:∃s',some (Qk.next (zw ((k:Int)+1),P'.map fun (x:Nat)=>(x:Int)))=some (Qk.next (ρ:=List Int) s') ∧
     (∃(k:Nat) (P':List Nat),k≤i∧(P'=P∨(P'=P++[u]∧u∈q.take k∧P.length < 3))∧s'=((k:Int),P'.map fun (x:Nat)=>(x:Int)))∧i - s'.1.toNat < i - (k:Int).toNat := by
    rw [ek]
    exact ⟨_,rfl,⟨k+1,P',hki,hP.imp id fun h=>⟨h.1,(Qfj hkq).2 (.inl h.2.1),h.2.2⟩,rfl⟩,by simp; omega⟩
   unfold Ve
   simp only
   rw [if_pos (by simpa using hki),Qpv hkq]
   simp only [Option.bind_some]
   by_cases hqu:q[k]=u
   ·rw [if_pos (by simp [hqu]),if_pos Qgx]
    have hPP:P'=P:=by
     rcases hP with e | ⟨_,e,_⟩
     ·exact e
     ·exact absurd (hqu ▸ e) (Qpl hn hkq)
    subst hPP
    split
    ·split
     ·rename_i h3
      have h3':P'.length < 3:=by simp at h3; omega
      rw [if_pos (by simp; omega),ek]
      exact ⟨_,rfl,⟨k+1,P'++[u],hki,.inr ⟨rfl,(Qfj hkq).2 (.inr hqu.symm),h3'⟩,by simp⟩,by simp; omega⟩
     ·exact same
    ·exact same
   ·rw [if_neg (by simpa using (fun e:((q[k]:Nat):Int)=(u:Int)=>hqu (by omega)))]
    exact same
  ·right
   have:k=i:=by omega
   subst this
   unfold Ve
   simp only
   rw [if_neg (by simp)]
   exact ⟨_,rfl,P',hP,rfl⟩
theorem Q60 (hn:q.Nodup) (hlen:q.length=dcnt p0) {L:List (Int ⊕ Tapi_Node)} {i:Nat} {pc:Qz} (hi:i < q.length) :
  ∃P:List Nat,P.Pairwise (· < ·)∧(∀p∈P,p∈q.take i)∧P.length≤3 ∧
   Qd fuel (Yc p0 ((i:Int),L) (q.map fun (x:Nat)=>(x:Int)) pc) (0,[])=some (P.map fun (x:Nat)=>(x:Int)):=by
 have hcn:=Qki (p0:=p0)
 have hw:=Z2 (body:=Yc p0 ((i:Int),L) (q.map fun (x:Nat)=>(x:Int)) pc)
  (fun s=>∃(u:Nat) (P:List Nat),u≤dcnt p0∧P.Pairwise (· < ·)∧(∀p∈P,p < u∧p∈q.take i)∧P.length≤3∧s=((u:Int),P.map fun (x:Nat)=>(x:Int)))
  (fun s=>dcnt p0 - s.1.toNat) (fun r=>∃P:List Nat,P.Pairwise (· < ·)∧(∀p∈P,p∈q.take i)∧P.length≤3∧r=P.map fun (x:Nat)=>(x:Int))
  (fun s hs=>?_) ((0:Int),([]:List Int)) ⟨0,[],by omega,List.Pairwise.nil,fun p hp=>by simp at hp,by simp,rfl⟩ (by simp; omega)
 ·obtain ⟨r,h1,P,h2,h3,h4,rfl⟩:=hw
  exact ⟨P,h2,h3,h4,h1⟩
 ·obtain ⟨u,P,hu,h2,h3,h4,rfl⟩:=hs
  unfold Yc
  simp only [Qg7]
  by_cases huc:u < dcnt p0
  ·left
   obtain ⟨P',hP',hb⟩:=Q62 hn (L:=L) (u:=u) (P:=P) (pc:=pc) hi (by omega)
   have ek:zw ((u:Int)+1)=((u+1:Nat):Int):=by rw [w64 (by omega)]; omega
   rw [if_pos (by simpa using huc),hb]
   simp only [Option.bind_some]
   rw [ek]
   refine ⟨_,rfl,⟨u+1,P',huc,?_,?_,?_,rfl⟩,by simp; omega⟩
   ·rcases hP' with rfl | ⟨rfl,_,_⟩
    ·exact h2
    ·rw [List.pairwise_append]
     exact ⟨h2,List.pairwise_singleton _ _,fun a ha b hb=>by simp at hb; subst hb; exact (h3 a ha).1⟩
   ·rcases hP' with rfl | ⟨rfl,hm,_⟩
    ·exact fun p hp=>⟨by have:=(h3 p hp).1; omega,(h3 p hp).2⟩
    ·intro p hp
     rcases List.mem_append.1 hp with e | e
     ·exact ⟨by have:=(h3 p e).1; omega,(h3 p e).2⟩
     ·simp at e; subst e; exact ⟨by omega,hm⟩
   ·rcases hP' with rfl | ⟨rfl,_,hlt⟩
    ·exact h4
    ·simp; omega
  ·right
   rw [if_neg (by simpa using huc)]
   exact ⟨_,rfl,P,h2,fun p hp=>(h3 p hp).2,h4,rfl⟩
theorem Qtf {n:Nat} {g:Int} {F:Nat → Tapi_Node} {C:Nat → Nat} (hF:∀v,v < n→(F v).Card=(C v:Int)) (hn:n≤8):Vj ⟨g,Qc n F⟩=some (Qm n C):=by
 unfold Vj
 refine Yv (Ze (s0:=((0:Int),([]:List Int))) (r:=Qm n C) (fun k=>((k:Int),Qm k C)) n rfl (fun k hk=>?_) ?_ (by omega)) rfl
 ·unfold J1
  simp only
  rw [if_pos (by rw [Qr]; simpa using hk),Qv hk]
  simp only [Option.bind_some]
  rw [hF k hk,show Qm k C++[(C k:Int)]=Qm (k+1) C from Qd8,if_pos (by rw [Ye]; omega),w64 (by omega)]
  rfl
 ·unfold J1
  simp only
  rw [if_neg (by rw [Qr]; simp)]
theorem Qms {f:Nat → Nat} {l:List Nat} (hf:∀p∈l,f p≤4) (hl:l.length≤8):Vd (l.map fun p=>(f p:Int))=some (lprod f l:Int):=by
 unfold Vd
 refine Yv (Ze (s0:=((1:Int),(0:Int))) (r:=(lprod f l:Int)) (fun k=>((lprod f (l.take k):Int),(k:Int))) l.length (by simp [lprod]) (fun k hk=>?_) ?_ (by omega)) rfl
 ·have h1:lprod f (l.take k)≤4^8:=Nat.le_trans (Qfb fun p hp=>hf p (List.mem_of_mem_take hp)) (Nat.pow_le_pow_right (by omega) (by rw [List.length_take]; omega))
  have h2:=hf _ (List.getElem_mem hk)
  have h3:lprod f (l.take k)*f l[k]≤65536*4:=Nat.mul_le_mul (by omega) h2
  have e:(lprod f (l.take k):Int)*(f l[k]:Int)=((lprod f (l.take (k+1)):Nat):Int):=by rw [Xn hk,Qb1]; simp
  have e2:lprod f (l.take (k+1))≤65536*4:=by rw [Xn hk,Qb1]; exact h3
  unfold Kn
  simp only
  rw [if_pos (by simpa using hk),Qn (by simpa using hk)]
  simp only [Option.bind_some,List.getElem_map]
  rw [e,w64 (by omega),w64 (by omega)]
  rfl
 ·unfold Kn
  simp only
  rw [if_neg (by simp),List.take_of_length_le (Nat.le_refl _)]
theorem Q7h {n v:Nat} {N:Nat → Int ⊕ Tapi_Node} {x:Tapi_Node}:List.set (List.map coTapi_Node (Qc n N)) (Int.toNat (v:Int)) x=Qc n fun k=>if k=v then x else coTapi_Node (N k):=by
 rw [show List.map coTapi_Node (Qc n N)=Qc n (fun k=>coTapi_Node (N k)) by simp [Qc],Int.toNat_natCast,Yf]
theorem Qyt {n v:Nat} {g:Int} {N:Nat → Int ⊕ Tapi_Node} {C:Nat → Nat} {P:List Nat} {R:List (List Int)} (hN:∀k,k < n→(coTapi_Node (N k)).Card=(C k:Int)) (hn:n≤8) (hv:v < n) (hP:∀p∈P,p < n) (hl:P.length≤8) :
  Q2 ⟨g,List.set (List.map coTapi_Node (Qc n N)) (Int.toNat (v:Int)) ⟨(C v:Int),P.map (fun (x:Nat)=>(x:Int)),R⟩⟩ (v:Int)=some (P.map fun p=>(C p:Int)):=by
 unfold Q2
 rw [Q7h,Qtf (C:=C) (fun k hk=>?_) hn]
 ·simp only [Option.bind_some]
  rw [Qv hv]
  simp only [Option.bind_some,if_true]
  rw [Qrh hP hl]
  rfl
 ·by_cases e:k=v
  ·subst e; rw [if_pos rfl]
  ·rw [if_neg e]; exact hN k hk
theorem Q7a {g c v i:Nat} {N:Nat → Int ⊕ Tapi_Node} {C:Nat → Nat} {P:List Nat} {pc:Qz} (hg:zw (1+(zw (Int.tmod p0.Grain 60)))=(g:Int)) (hg60:g≤60)
  (hC:∀k,k < dcnt p0→2≤C k∧C k≤3) (hN:∀k,k < dcnt p0→(coTapi_Node (N k)).Card=(C k:Int)) (hv:v < dcnt p0) (hP:∀p∈P,p < dcnt p0) (hl:P.length≤3)
  (hW:∀x∈pc.W,0≤x∧x≤255) (hWl:pc.W.length≤9223372036854775807) :
  ∃W:Nat → Nat → Nat,(∀r,r < lprod C P→Ql (C v) (fun x=>(W r x:Int))=g) ∧
   Qd fuel (Vb p0 ((i:Int),Qc (dcnt p0) N) (v:Int) (C v:Int) (P.map fun (x:Nat)=>(x:Int)) pc) (0,[])=some (Qc (lprod C P) fun r=>Qc (C v) fun x=>(W r x:Int)):=by
 have hcn:=Qki (p0:=p0)
 have hcv:=hC v hv
 have hsz:=Qms (f:=C) (l:=P) (fun p hp=>by have:=hC p (hP p hp); omega) (by omega)
 have hb:lprod C P≤64:=Nat.le_trans (Qfb fun p hp=>by have:=hC p (hP p hp); omega) (Nat.pow_le_pow_right (by omega) hl:4^P.length≤4^3)
 have hw:=Z2 (body:=Vb p0 ((i:Int),Qc (dcnt p0) N) (v:Int) (C v:Int) (P.map fun (x:Nat)=>(x:Int)) pc)
  (fun s=>∃(r:Nat) (W:Nat → Nat → Nat),r≤lprod C P∧(∀r',r' < r→Ql (C v) (fun x=>(W r' x:Int))=g)∧s=((r:Int),Qc r fun r=>Qc (C v) fun x=>(W r x:Int)))
  (fun s=>lprod C P - s.1.toNat) (fun o=>∃W:Nat → Nat → Nat,(∀r,r < lprod C P→Ql (C v) (fun x=>(W r x:Int))=g)∧o=Qc (lprod C P) fun r=>Qc (C v) fun x=>(W r x:Int))
  (fun s hs=>?_) ((0:Int),([]:List (List Int))) ⟨0,fun _ _=>0,by omega,fun r hr=>by omega,rfl⟩ (by simp; omega)
 ·obtain ⟨o,h1,W,h2,rfl⟩:=hw
  exact ⟨W,h2,h1⟩
 ·obtain ⟨r,W,hr,hS,rfl⟩:=hs
  unfold Vb
  simp only
  rw [Qyt hN (by omega) hv hP (by omega)]
  simp only [Option.bind_some]
  rw [hsz]
  simp only [Option.bind_some]
  by_cases hrs:r < lprod C P
  ·left
   have hm:r*(C v+1)≤64*4:=Nat.mul_le_mul (by omega) (by omega)
   have ef:zw ((r:Int)*zw ((C v:Int)+1))=((r*(C v+1):Nat):Int):=by
    have w1:zw ((C v:Int)+1)=((C v+1:Nat):Int):=by rw [w64 (by omega)]; omega
    have e3:(r:Int)*((C v+1:Nat):Int)=((r*(C v+1):Nat):Int):=by simp
    rw [w1,e3]
    exact w64 (by omega)
   obtain ⟨f,hf,hfs⟩:=Q4f (g:=g) (c:=C v) (l:=pc.W) (fr:=r*(C v+1)) hg60 (by omega) (by omega) hW hWl (by omega)
   have ek:zw ((r:Int)+1)=((r+1:Nat):Int):=by rw [w64 (by omega)]; omega
   rw [if_pos (by simpa using hrs),hg,ef,hf]
   simp only [Option.bind_some]
   rw [if_pos (by simp [Qr]; omega),ek]
   have e:(Qc r fun r=>Qc (C v) fun x=>(W r x:Int))++[Qc (C v) fun x=>(f x:Int)]=Qc (r+1) fun r'=>Qc (C v) fun x=>((Xm W r f) r' x:Int):=by
    rw [←Qd8,Yi]
    congr 1
    exact Qu fun k hk=>by rw [Kg (by omega)]
   refine ⟨_,rfl,⟨r+1,Xm W r f,hrs,fun r' hr'=>?_,by rw [e]⟩,by simp; omega⟩
   by_cases e2:r'=r
   ·subst e2; rw [Yi]; exact hfs
   ·rw [Kg e2]; exact hS r' (by omega)
  ·right
   have:r=lprod C P:=by omega
   subst this
   rw [if_neg (by simp)]
   exact ⟨_,rfl,W,hS,rfl⟩
theorem Q73 {s:Int × List (Int ⊕ Tapi_Node)} {x1:List Int}:Qev p0 s x1=Yc p0 s x1 ⟨0,0,[]⟩:=rfl
theorem Q5w {n:Nat} {F:Nat → Tapi_Node}:alr (Qc n fun v=>(Sum.inr (F v):Int ⊕ Tapi_Node))=some (Qc n F):=by
 have:∀l:List Nat,alr (l.map fun v=>(Sum.inr (F v):Int ⊕ Tapi_Node))=some (l.map F):=by
  intro l
  induction l with
  | nil=>rfl
  | cons x l ih=>simp only [List.map_cons,alr,ih,Option.map_some]
 exact this _
def GdF (D:NF) (q:List Nat) (j:Nat) (v:Nat):Prop:=(D.par v).Pairwise (· < ·)∧(∀p∈D.par v,p∈q.take j)∧(D.par v).length≤3∧∀r,r < D.rows v→Ql (D.card v) (fun x=>(D.W v r x:Int))=D.g
theorem Q61 (h:Qy0 p0) (hn:q.Nodup) (hl:∀x∈q,x < dcnt p0) (hlen:q.length=dcnt p0) {g:Nat} (hg:zw (1+(zw (Int.tmod p0.Grain 60)))=(g:Int)) (hg60:g≤60)
  {C:Nat → Nat} (hC:∀k,k < dcnt p0→2≤C k∧C k≤3) :
  ∃(P:Nat → List Nat) (W:Nat → Nat → Nat → Nat),(∀j (hj:j < q.length),GdF ⟨dcnt p0,g,C,P,W⟩ q j q[j]) ∧
   Qd fuel (Vc p0 (q.map fun (x:Nat)=>(x:Int))) (0,Qc (dcnt p0) fun v=>Sum.inl (C v:Int))=some (Qc (dcnt p0) fun v=>Sum.inr ((NF.mk (dcnt p0) g C P W).node v)):=by
 have hcn:=Qki (p0:=p0)
 let N:Nat → (Nat → List Nat)→(Nat → Nat → Nat → Nat)→Nat → Int ⊕ Tapi_Node:=fun i P W v=>if v∈q.take i then Sum.inr ((NF.mk (dcnt p0) g C P W).node v) else Sum.inl (C v:Int)
 have hNco:∀i P W k,(coTapi_Node (N i P W k)).Card=(C k:Int):=fun i P W k=>by
  show (coTapi_Node (if k∈q.take i then Sum.inr ((NF.mk (dcnt p0) g C P W).node k) else Sum.inl (C k:Int))).Card=_
  split <;> rfl
 have hw:=Z2 (body:=Vc p0 (q.map fun (x:Nat)=>(x:Int)))
  (fun s=>∃(i:Nat) (P:Nat → List Nat) (W:Nat → Nat → Nat → Nat),i≤dcnt p0∧(∀j (hj:j < q.length),j < i→GdF ⟨dcnt p0,g,C,P,W⟩ q j q[j])∧s=((i:Int),Qc (dcnt p0) (N i P W)))
  (fun s=>dcnt p0 - s.1.toNat)
  (fun o=>∃(P:Nat → List Nat) (W:Nat → Nat → Nat → Nat),(∀j (hj:j < q.length),GdF ⟨dcnt p0,g,C,P,W⟩ q j q[j])∧o=Qc (dcnt p0) fun v=>Sum.inr ((NF.mk (dcnt p0) g C P W).node v))
  (fun s hs=>?_) ((0:Int),Qc (dcnt p0) fun v=>Sum.inl (C v:Int)) ⟨0,fun _=>[],fun _ _ _=>0,by omega,fun j _ hj=>by omega,by congr 1⟩ (by simp; omega)
 ·obtain ⟨o,h1,P,W,h2,rfl⟩:=hw
  exact ⟨P,W,h2,h1⟩
 ·obtain ⟨i,P,W,hi,hG,rfl⟩:=hs
  by_cases hic:i < dcnt p0
  ·left
   have hiq:i < q.length:=by omega
   have hv:=hl _ (List.getElem_mem hiq)
   have hnot:=Qpl hn hiq
   have ek:zw ((i:Int)+1)=((i+1:Nat):Int):=by rw [w64 (by omega)]; omega
   have hk:lkL (Qc (dcnt p0) (N i P W)) ((q[i]:Nat):Int)=some (C q[i]:Int):=by
    unfold lkL
    rw [Qv hv]
    show Option.bind (some (if q[i]∈q.take i then _ else _)) _=_
    rw [if_neg hnot]; rfl
   have leaf:∀pc:Qz,(∀x∈pc.W,0≤x∧x≤255)→pc.W.length≤9223372036854775807 →
     ∃s',((Qd fuel (Yc p0 ((i:Int),Qc (dcnt p0) (N i P W)) (q.map fun (x:Nat)=>(x:Int)) pc) (0,([]:List Int))).bind fun x72 =>
      (Qd fuel (Vb p0 ((i:Int),Qc (dcnt p0) (N i P W)) ((q[i]:Nat):Int) (C q[i]:Int) x72 pc) (0,([]:List (List Int)))).bind fun x83 =>
      some (Qk.next (ρ:=List (Int ⊕ Tapi_Node)) (zw ((i:Int)+1),(List.set (Qc (dcnt p0) (N i P W)) (Int.toNat ((q[i]:Nat):Int)) (Sum.inr (Tapi_Node.mk (C q[i]:Int) x72 x83))))))=some (Qk.next s') ∧
      (∃(i:Nat) (P:Nat → List Nat) (W:Nat → Nat → Nat → Nat),i≤dcnt p0∧(∀j (hj:j < q.length),j < i→GdF ⟨dcnt p0,g,C,P,W⟩ q j q[j])∧s'=((i:Int),Qc (dcnt p0) (N i P W)))∧dcnt p0 - s'.1.toNat < dcnt p0 - (i:Int).toNat := fun pc hpW hpl=>by
    obtain ⟨Pv,p1,p2,p3,hb2⟩:=Q60 (p0:=p0) hn hlen (L:=Qc (dcnt p0) (N i P W)) (pc:=pc) hiq
    have hPv:∀p∈Pv,p < dcnt p0:=fun p hp=>hl p (List.mem_of_mem_take (p2 p hp))
    obtain ⟨Wv,w1,hb3⟩:=Q7a (p0:=p0) (i:=i) (c:=0) (pc:=pc) hg hg60 hC (fun k _=>hNco i P W k) hv hPv p3 hpW hpl
    rw [hb2]
    simp only [Option.bind_some]
    rw [hb3]
    simp only [Option.bind_some]
    rw [ek,Int.toNat_natCast,Yf]
    refine ⟨_,rfl,⟨i+1,Xm P q[i] Pv,Xm W q[i] Wv,hic,fun j hj hji=>?_,?_⟩,by simp; omega⟩
    ·by_cases e:j=i
     ·subst e
      unfold GdF NF.rows
      simp only [Yi]
      exact ⟨p1,p2,p3,w1⟩
     ·have hne:q[j]≠q[i]:=fun e2=>e (by
       rcases Nat.lt_or_ge j i with h' | h'
       ·exact absurd e2 (List.pairwise_iff_getElem.1 hn j i hj hiq h')
       ·omega)
      have:=hG j hj (by omega)
      unfold GdF NF.rows at this ⊢
      simp only [Kg hne]
      exact this
    ·congr 1
     refine Qu fun k hk=>?_
     by_cases e:k=q[i]
     ·rw [if_pos e]
      show _=if k∈q.take (i+1) then _ else _
      rw [if_pos ((Qfj hiq).2 (.inr e)),e]
      unfold NF.node NF.rows
      simp only [Yi]
     ·rw [if_neg e]
      show (if k∈q.take i then _ else _)=if k∈q.take (i+1) then _ else _
      by_cases hm:k∈q.take i
      ·rw [if_pos hm,if_pos ((Qfj hiq).2 (.inl hm))]
       unfold NF.node NF.rows
       simp only [Kg e]
      ·rw [if_neg hm,if_neg (fun h'=>((Qfj hiq).1 h').elim hm e)]
   unfold Vc
   simp only [Qg7]
   rw [if_pos (by simpa using hic)]
   by_cases hin:i < p0.Nodes.length
   ·rw [if_pos (by simpa using hin),Qn hin]
    simp only [Option.bind_some]
    rw [Qpv hiq]
    simp only [Option.bind_some]
    rw [hk]
    simp only [Option.bind_some]
    exact leaf _ (h.W _ (List.getElem_mem hin)) (h.Wl _ (List.getElem_mem hin))
   ·rw [if_neg (by simpa using hin),Qpv hiq]
    simp only [Option.bind_some]
    rw [hk]
    simp only [Option.bind_some]
    rw [Q73]
    exact leaf ⟨0,0,[]⟩ (fun x hx=>by simp at hx) (by simp)
  ·right
   have:i=dcnt p0:=by omega
   subst this
   unfold Vc
   simp only [Qg7]
   rw [if_neg (by simp)]
   refine ⟨_,rfl,P,W,fun j hj=>hG j hj (by omega),?_⟩
   refine Qu fun k hk=>?_
   show (if k∈q.take (dcnt p0) then _ else _)=_
   rw [if_pos (by rw [List.take_of_length_le (by omega)]; exact Qkz hn hl hlen k hk)]
theorem Qs4 (h:Qy0 p0):∃D:NF,VX D∧D.n≤5∧(∀v,v < D.n→2≤D.card v∧D.card v≤3)∧Jh p0=some D.net:=by
 have hcn:=Qki (p0:=p0)
 have hgr:=h.grain
 obtain ⟨q,hn,hl,hlen,hq⟩:=Qzx (n:=dcnt p0) hcn.2 h.order
 obtain ⟨C,hC,h0⟩:=Q6t h hn hl hlen
 have hg:zw (1+(zw (Int.tmod p0.Grain 60)))=((1+p0.Grain.toNat % 60:Nat):Int):=by
  have w1:zw (p0.Grain % 60)=p0.Grain % 60:=w64 (by omega)
  rw [Xr hgr.1,w1,w64 (by omega)]; omega
 have hg60:1+p0.Grain.toNat % 60≤60:=by omega
 obtain ⟨P,W,hG,h7⟩:=Q61 h hn hl hlen hg hg60 hC
 refine ⟨⟨dcnt p0,1+p0.Grain.toNat % 60,C,P,W⟩,?_,hcn.2,hC,?_⟩
 ·have hall:∀v,v < dcnt p0→∃j,∃hj:j < q.length,q[j]=v:=fun v hv=>List.mem_iff_getElem.1 (Qkz hn hl hlen v hv)
  have hsum:∀v r,v < dcnt p0→r < (NF.mk (dcnt p0) (1+p0.Grain.toNat % 60) C P W).rows v→Ql (C v) (fun x=>(W v r x:Int))=((1+p0.Grain.toNat % 60:Nat):Int):=fun v r hv hr=>by
   obtain ⟨j,hj,rfl⟩:=hall v hv
   exact (hG j hj).2.2.2 r hr
  refine ⟨⟨by show 1≤dcnt p0; omega,by show dcnt p0≤8; omega,by show 1≤1+p0.Grain.toNat % 60; omega,hg60,fun v hv=>by have:=hC v hv; show 1≤C v∧C v≤4; omega,fun v hv p hp=>?_,fun v hv=>?_,fun v r x hv hr hx=>?_,?_⟩,fun v hv=>?_,fun v hv hp=>?_,⟨fun v=>q.idxOf v,fun v hv p hp=>?_⟩,hsum⟩
  ·obtain ⟨j,hj,rfl⟩:=hall v hv
   exact hl p (List.mem_of_mem_take ((hG j hj).2.1 p hp))
  ·obtain ⟨j,hj,rfl⟩:=hall v hv
   have:=(hG j hj).2.2.1
   omega
  ·have h1:=hsum v r hv hr
   have h2:=Qfu (n:=C v) (k:=x+1) (f:=fun x=>(W v r x:Int)) (fun _ _=>Int.natCast_nonneg _) hx
   have h3:0≤Ql x (fun x=>(W v r x:Int)):=Vw fun _ _=>Int.natCast_nonneg _
   simp only [Ql] at h2
   show W v r x≤1+p0.Grain.toNat % 60
   omega
  ·have h1:prodTo (dcnt p0) C≤3^dcnt p0:=Vk fun v hv=>(hC v hv).2
   have h2:3^dcnt p0≤3^5:=Nat.pow_le_pow_right (by omega) hcn.2
   show prodTo (dcnt p0) C≤1024
   omega
  ·obtain ⟨j,hj,rfl⟩:=hall v hv
   exact (hG j hj).1
  ·obtain ⟨j,hj,rfl⟩:=hall v hv
   exact Qpl hn hj ((hG j hj).2.1 _ hp)
  ·obtain ⟨j,hj,rfl⟩:=hall v hv
   have h1:=Qpg ((hG j hj).2.1 p hp)
   have h2:=Q3c hn hj
   show q.idxOf p < q.idxOf q[j]
   omega
 ·unfold Jh
  simp only [Qg7]
  rw [if_pos (by omega),if_pos (by omega),Int.toNat_natCast,hq]
  simp only [Option.bind_some]
  rw [h0]
  simp only [Option.bind_some]
  rw [h7]
  simp only [Option.bind_some]
  rw [Q5w,hg]
  rfl
end
end Go.Ab
namespace Go.Ab
open Go
set_option maxRecDepth 100000
set_option maxHeartbeats 400000
theorem Yh {τ ρ σ:Type} {n:Nat} (hn:n < 1152921504606846976) (good:Nat → Prop) (mkS:Int→τ→σ) {body:σ→Option (Qk σ ρ)} (T:Nat → τ) (r rb:ρ)
  (step:∀k,k < n→(∀j,j < k→good j)→good k→body (mkS (k:Int) (T k))=some (.next (mkS (zw ((k:Int)+1)) (T (k+1)))))
  (bad:∀k,k < n→(∀j,j < k→good j)→¬ good k→body (mkS (k:Int) (T k))=some (.done rb))
  (done:(∀j,j < n→good j)→body (mkS (n:Int) (T n))=some (.done r)) :
  ((∀j,j < n→good j)∧Qd fuel body (mkS ((0:Nat):Int) (T 0))=some r)∨((¬ ∀j,j < n→good j)∧Qd fuel body (mkS ((0:Nat):Int) (T 0))=some rb):=by
 have h:=Qpf (n:=n) (k0:=0) (by omega) hn mkS (body:=body) (fun k t=>t=T k∧∀j,j < k→good j) (fun x=>((∀j,j < n→good j)∧x=r)∨((¬ ∀j,j < n→good j)∧x=rb))
  (fun k t _ hk hI=>by
   obtain ⟨rfl,hI⟩:=hI
   by_cases hg:good k
   ·left
    exact ⟨_,step k hk hI hg,rfl,fun j hj=>by
     by_cases e:j=k
     ·rw [e]; exact hg
     ·exact hI j (by omega)⟩
   ·exact .inr ⟨_,bad k hk hI hg,.inr ⟨fun h=>hg (h k hk),rfl⟩⟩)
  (fun t hI=>by
   obtain ⟨rfl,hI⟩:=hI
   exact ⟨_,done hI,.inl ⟨hI,rfl⟩⟩) (T 0) ⟨rfl,fun j hj=>by omega⟩
 obtain ⟨x,h1,h2⟩:=h
 rcases h2 with ⟨a,rfl⟩ | ⟨a,rfl⟩
 ·exact .inl ⟨a,h1⟩
 ·exact .inr ⟨a,h1⟩
structure NB (n:Nat) (F:Nat → Tapi_Node):Prop where
 par:∀v,v < n→(F v).Parents.length≤1000000
 rows:∀v,v < n→(F v).Rows.length≤1000000
 row:∀v,v < n→∀r∈(F v).Rows,r.length≤1000000
def Qab (x:Tapi_Node):Prop:=1≤x.Card∧x.Card≤4
def cardN (F:Nat → Tapi_Node) (v:Nat):Nat := (F v).Card.toNat
theorem Qfn {F:Nat → Tapi_Node} {v:Nat} (h:Qab (F v)):((cardN F v:Nat):Int)=(F v).Card:=by
 unfold cardN; have:=h.1; omega
theorem Qas {F:Nat → Tapi_Node} {v:Nat} (h:Qab (F v)):1≤cardN F v∧cardN F v≤4:=by
 unfold cardN; have:=h.1; have:=h.2; omega
theorem Qy2 {n:Nat} {g:Int} {F:Nat → Tapi_Node} (hn:n≤8) :
  ((∀v,v < n→Qab (F v))∧Qd fuel (X7 ⟨g,Qc n F⟩) ((1:Int),(0:Int),Qc n fun _=>(0:Int))=some (Sum.inr ((prodTo n (cardN F):Int),Qm n (cardN F)))) ∨
  ((¬ ∀v,v < n→Qab (F v))∧Qd fuel (X7 ⟨g,Qc n F⟩) ((1:Int),(0:Int),Qc n fun _=>(0:Int))=some (Sum.inl ())):=by
 have hlen:(Qc n F).length=n:=Qr
 have h:=Yh (n:=n) (by omega) (fun v=>Qab (F v)) (fun i (t:Int × List Int)=>(t.1,i,t.2)) (body:=X7 ⟨g,Qc n F⟩)
  (fun k=>((prodTo k (cardN F):Int),Qc n fun j=>if j < k then (cardN F j:Int) else 0)) (Sum.inr ((prodTo n (cardN F):Int),Qm n (cardN F))) (Sum.inl ())
  (fun k hk hI hg=>by
   have b1:prodTo k (cardN F)≤4^k:=Vk fun j hj=>(Qas (hI j hj)).2
   have b2:(4:Nat)^k≤4^8:=Nat.pow_le_pow_right (by omega) (by omega)
   have b3:prodTo k (cardN F)*cardN F k≤65536*4:=Nat.mul_le_mul (by omega) (Qas hg).2
   have hc:=Qfn hg
   have e1:(prodTo k (cardN F):Int)*(F k).Card=((prodTo (k+1) (cardN F):Nat):Int):=by rw [←hc]; simp [prodTo]
   unfold X7
   dsimp only
   rw [hlen,if_pos (dlt hk),Qv hk,Option.bind_some,if_neg (by simp; exact hg.1),if_neg (by simp; exact hg.2),Qv hk,Option.bind_some,e1,w64 (n:=((prodTo (k+1) (cardN F):Nat):Int)) (by simp only [prodTo]; omega),Int.toNat_natCast,Yf,←hc]
   congr 4
   refine Qu fun j hj=>?_
   by_cases e:j=k
   ·subst e; simp
   ·rw [if_neg e]
    by_cases e2:j < k
    ·rw [if_pos e2,if_pos (by omega)]
    ·rw [if_neg e2,if_neg (by omega)])
  (fun k hk hI hg=>by
   unfold X7
   dsimp only
   rw [hlen,if_pos (dlt hk),Qv hk,Option.bind_some]
   by_cases c:(F k).Card < 1
   ·rw [if_pos (by simpa using c)]
   ·rw [if_neg (by simpa using c),if_pos (by unfold Qab at hg; simp; omega)])
  (fun hI=>by
   unfold X7
   dsimp only
   rw [hlen,if_neg (nlt n)]
   congr 4
   exact Qu fun j hj=>if_pos hj)
 have e0:(Qc n fun j=>if j < 0 then (cardN F j:Int) else 0)=Qc n fun _=>(0:Int):=Qu fun j _=>if_neg (by omega)
 simp only [e0] at h
 exact h
def Qap (n:Nat) (l:List Int):Prop:=∃q:List Nat,l=nI q∧q.Pairwise (· < ·)∧∀p∈q,p < n
def Qir (l:List Int) (k:Nat):Int:=if k=0 then -1 else (l[k - 1]?).getD 0
def Qh2 (n:Nat) (l:List Int) (k:Nat):Prop:=Qir l k < (l[k]?).getD 0∧(l[k]?).getD 0 < n
theorem Qq7 {l:List Int} {k:Nat}:Qir l (k+1)=(l[k]?).getD 0:=by simp [Qir]
theorem Qgo {n:Nat} {l:List Int} {m:Nat} (h:∀j,j < m→Qh2 n l j):∀k,k < m→0≤(l[k]?).getD 0∧∀j,j < k→(l[j]?).getD 0 < (l[k]?).getD 0
 | 0,hk=>⟨by have:=(h 0 hk).1; simp [Qir] at this ⊢; omega,fun j hj=>by omega⟩
 | k+1,hk=>by
  obtain ⟨h1,h2⟩:=Qgo h k (by omega)
  have h3:=(h (k+1) hk).1
  rw [Qq7] at h3
  refine ⟨by omega,fun j hj=>?_⟩
  by_cases e:j=k
  ·rw [e]; exact h3
  ·have:=h2 j (by omega); omega
theorem Qti {n:Nat} {l:List Int} (h:∀j,j < l.length→Qh2 n l j):Qap n l:=by
 have hm:=Qgo h
 have e:l=nI (l.map Int.toNat):=by
  unfold nI
  rw [List.map_map]
  conv=>lhs; rw [←List.map_id l]
  refine List.map_congr_left fun x hx=>?_
  obtain ⟨k,hk,rfl⟩:=List.mem_iff_getElem.1 hx
  have:=(hm k hk).1
  rw [List.getElem?_eq_getElem hk] at this
  simp at this ⊢; omega
 refine ⟨l.map Int.toNat,e,?_,fun p hp=>?_⟩
 ·rw [List.pairwise_map,List.pairwise_iff_getElem]
  intro i j hi hj hij
  have h1:=(hm j hj).2 i hij
  have h2:=(hm i hi).1
  rw [List.getElem?_eq_getElem hj,List.getElem?_eq_getElem hi] at h1
  rw [List.getElem?_eq_getElem hi] at h2
  simp at h1 h2; omega
 ·obtain ⟨x,hx,rfl⟩:=List.mem_map.1 hp
  obtain ⟨k,hk,rfl⟩:=List.mem_iff_getElem.1 hx
  have h1:=(h k hk).2
  have h2:=(hm k hk).1
  rw [List.getElem?_eq_getElem hk] at h1 h2
  simp at h1 h2; omega
theorem Qmm {n:Nat} {l:List Int} (h:Qap n l):∀j,j < l.length→Qh2 n l j:=by
 obtain ⟨q,rfl,h1,h2⟩:=h
 intro j hj
 rw [Qa4] at hj
 have e:∀k (hk:k < q.length),((nI q)[k]?).getD 0=(q[k]:Int):=fun k hk=>by simp [nI,hk]
 refine ⟨?_,?_⟩
 ·unfold Qir
  rw [e j hj]
  by_cases c:j=0
  ·rw [if_pos c]; omega
  ·rw [if_neg c,e (j - 1) (by omega)]
   have:=List.pairwise_iff_getElem.1 h1 (j - 1) j (by omega) hj (by omega)
   omega
 ·rw [e j hj]
  have:=h2 _ (List.getElem_mem hj); omega
def parN (F:Nat → Tapi_Node) (v:Nat):List Nat := (F v).Parents.map Int.toNat
theorem Ja {n:Nat} {F:Nat → Tapi_Node} {v:Nat} (h:Qap n (F v).Parents):(F v).Parents=nI (parN F v)∧(parN F v).Pairwise (· < ·)∧∀p∈parN F v,p < n:=by
 obtain ⟨q,e,h1,h2⟩:=h
 have:parN F v=q:=by
  unfold parN; rw [e]; unfold nI; rw [List.map_map]
  conv=>rhs; rw [←List.map_id q]
  exact List.map_congr_left fun x _=>by simp
 rw [this]; exact ⟨e,h1,h2⟩
theorem Qea {n:Nat} {q:List Nat} (h1:q.Pairwise (· < ·)) (h2:∀p∈q,p < n):q.length≤n:=by
 have:=Qd4 q (List.range n) (h1.imp fun h=>by omega) fun p hp=>List.mem_range.2 (h2 p hp)
 simpa using this
theorem Qut {n v:Nat} {g:Int} {F:Nat → Tapi_Node} {x:Tapi_Node} {S:Nat → Int} {R:List Int} (hn:n≤8) (hv:v < n) (hb:x.Parents.length≤1000000) (h0:S v=0) (w:Int × List Int) (hw1:w.1=(v:Int)) :
  ((Qap n x.Parents∧(v:Int) ∉ x.Parents)∧Qd fuel (X5 x ⟨g,Qc n F⟩ w) ((-1:Int),(0:Int),Qc n S)=some (Sum.inr (Qc n fun j=>if j=v then (bitsOf (x.Parents.map Int.toNat) 0:Int) else S j))) ∨
  (¬ (Qap n x.Parents∧(v:Int) ∉ x.Parents)∧Qd fuel (X5 x ⟨g,Qc n F⟩ w) ((-1:Int),(0:Int),Qc n S)=some (Sum.inl ())):=by
 have hlen:(Qc n F).length=n:=Qr
 have h:=Yh (n:=x.Parents.length) (by omega) (fun k=>Qh2 n x.Parents k∧(x.Parents[k]?).getD 0≠(v:Int)) (fun i (t:Int × List Int)=>(t.1,i,t.2)) (body:=X5 x ⟨g,Qc n F⟩ w)
  (fun k=>(Qir x.Parents k,Qc n fun j=>if j=v then (bitsOf ((x.Parents.take k).map Int.toNat) 0:Int) else S j)) (Sum.inr (Qc n fun j=>if j=v then (bitsOf (x.Parents.map Int.toNat) 0:Int) else S j)) (Sum.inl ())
  (fun k hk hI hg=>by
   have hm:=Qgo (m:=k+1) (n:=n) (l:=x.Parents) fun j hj=>by
    by_cases e:j=k
    ·rw [e]; exact hg.1
    ·exact (hI j (by omega)).1
   have ek:lkI x.Parents (k:Int)=some ((x.Parents[k]?).getD 0):=by rw [Qn hk,List.getElem?_eq_getElem hk]; rfl
   have htake:(x.Parents.take (k+1)).map Int.toNat = (x.Parents.take k).map Int.toNat ++ [((x.Parents[k]?).getD 0).toNat]:=by
    rw [Xn hk,List.map_append,List.getElem?_eq_getElem hk]; rfl
   have hbl:bitsOf ((x.Parents.take k).map Int.toNat) 0 < 18446744073709551616:=Qam _ _ (by omega) fun p hp=>by
    obtain ⟨y,hy,rfl⟩:=List.mem_map.1 hp
    obtain ⟨j,hj,rfl⟩:=List.mem_iff_getElem.1 hy
    have hj':j < k:=by rw [List.length_take] at hj; omega
    have h1:=(hI j hj').1.2
    have h2:=(hm j (by omega)).1
    rw [List.getElem?_eq_getElem (by omega)] at h1 h2
    rw [List.getElem_take]
    simp at h1 h2; omega
   obtain ⟨⟨g1,g2⟩,g3⟩:=hg
   have g4:=(hm k (by omega)).1
   generalize hp:(x.Parents[k]?).getD 0=p at *
   obtain ⟨p,rfl⟩:∃m:Nat,p=(m:Int):=⟨p.toNat,by omega⟩
   unfold X5
   dsimp only
   rw [if_pos (dlt hk),ek,Option.bind_some,if_neg (by simp; omega),hlen,if_neg (by simp; omega),hw1,if_neg (by simp; omega),Qv hv,Option.bind_some,if_pos (Qmd p),if_pos rfl,Qrm hbl (by omega),Int.toNat_natCast,Yf,htake,Qq7,hp,Qaz,Int.toNat_natCast]
   congr 4
   refine Qu fun j _=>?_
   by_cases e:j=v
   ·subst e; simp
   ·rw [if_neg e,if_neg e,if_neg e])
  (fun k hk hI hg=>by
   have ek:lkI x.Parents (k:Int)=some ((x.Parents[k]?).getD 0):=by rw [Qn hk,List.getElem?_eq_getElem hk]; rfl
   unfold X5
   dsimp only
   rw [if_pos (dlt hk),ek,Option.bind_some]
   by_cases c1:(x.Parents[k]?).getD 0≤Qir x.Parents k
   ·rw [if_pos (by simpa using c1)]
   ·rw [if_neg (by simpa using c1),hlen]
    by_cases c2:(x.Parents[k]?).getD 0≥(n:Int)
    ·rw [if_pos (by simpa using c2)]
    ·rw [if_neg (by simpa using c2),hw1,if_pos (by
      have:(x.Parents[k]?).getD 0=(v:Int):=by
       apply Classical.byContradiction
       intro h
       exact hg ⟨⟨by omega,by omega⟩,h⟩
      simpa using this)])
  (fun hI=>by
   unfold X5
   dsimp only
   rw [if_neg (nlt _),List.take_of_length_le (Nat.le_refl _)])
 have hiff:(∀j,j < x.Parents.length→Qh2 n x.Parents j∧(x.Parents[j]?).getD 0≠(v:Int))↔Qap n x.Parents∧(v:Int) ∉ x.Parents:=by
  constructor
  ·intro h
   refine ⟨Qti fun j hj=>(h j hj).1,fun hm=>?_⟩
   obtain ⟨k,hk,e⟩:=List.mem_iff_getElem.1 hm
   have:=(h k hk).2
   rw [List.getElem?_eq_getElem hk] at this
   exact this e
  ·rintro ⟨h1,h2⟩ j hj
   refine ⟨Qmm h1 j hj,fun e=>h2 ?_⟩
   rw [List.getElem?_eq_getElem hj] at e
   rw [←show x.Parents[j]=(v:Int) from e]
   exact List.getElem_mem hj
 rw [hiff] at h
 have e0:(Qc n fun j=>if j=v then (bitsOf ((x.Parents.take 0).map Int.toNat) 0:Int) else S j)=Qc n S:=Qu fun j _=>by
  by_cases e:j=v
  ·rw [if_pos e,e,h0]; rfl
  ·rw [if_neg e]
 simp only [e0] at h
 exact h
end Go.Ab
